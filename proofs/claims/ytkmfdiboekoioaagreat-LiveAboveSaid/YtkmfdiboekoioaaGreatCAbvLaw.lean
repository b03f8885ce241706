/- The walk of LiveAbove: it answers true. Conditions: a program and a graph that lie in memory; ops of nodes and numbers of locals that their types hold. -/
import Derived.Test.YtkmfdiboekoioaaGreatCLk19
import Derived.Test.YtkmfdiboekoioaaGreatCLives20
set_option linter.unusedSimpArgs false
set_option linter.unusedVariables false
namespace Go.Proofs.YtkmfdiboekoioaaGreat
open Go.RowKit
def intCells (l : List Int) : Array Value := (l.map (Value.int .i64)).toArray
theorem intCells_at {l : List Int} {k : Nat} {x : Int} (h : l[k]? = some x) : (intCells l)[k]? = some (.int .i64 x) := by simp [intCells, h]
theorem intCells_set (l : List Int) (k : Nat) (x : Int) : (intCells l).setIfInBounds k (.int .i64 x) = intCells (l.set k x) := by
  unfold intCells
  rw [List.map_set]
  simp
theorem made_ints (N : Nat) : madeCells #[.int .i64 0] N = intCells (List.replicate N 0) := by
  apply Array.ext_getElem?
  intro i
  by_cases hi : i < N
  · simp [madeCells, intCells, hi, Nat.mod_one]
  · simp [madeCells, intCells, hi]
/-- The memory of LiveAbove: the nodes' blocks. -/
structure AbM (w : World) (ba : Nat) (xv : GVals) (g : GraphP) (l : List Int) (W : World) : Prop where
  gc : GCtx W w.heap.size w.heap.size xv g
  ar : Blk W ba 3 (intCells l)
  low : Below w.heap.size w W
  bal : w.heap.size < ba
  len : l.length = g.nodes.length
section
variable {w : World} {ba : Nat} {xv : GVals} {g : GraphP} {l : List Int} {W W' : World}
theorem AbM.below (h : AbM w ba xv g l W) (hb : Below W.heap.size W W') : AbM w ba xv g l W' := ⟨h.gc.below hb, h.ar.below hb h.ar.lt, h.low.trans (hb.mono h.low.size), h.bal, h.len⟩
theorem AbM.put (h : AbM w ba xv g l W) (k : Nat) (x : Int) : AbM w ba xv g (l.set k x) (W.setCell ⟨ba, k, none⟩ (.int .i64 x)) :=
  ⟨h.gc.setCell (p := ⟨ba, k, none⟩) (Nat.le_of_lt h.bal) (Nat.ne_of_lt h.bal) _, by rw [← intCells_set]; exact h.ar.set_ k _, h.low.setCell (p := ⟨ba, k, none⟩) (Nat.le_of_lt h.bal) _, h.bal, by rw [List.length_set]; exact h.len⟩
theorem AbM.cell (h : AbM w ba xv g l W) {k : Nat} {x : Int} (hk : l[k]? = some x) : W.cell? ⟨ba, k, none⟩ = some (.int .i64 x) := by
  rw [h.ar.cell]; exact intCells_at hk
end
/-- What is laid when all blocks ahead of k, and j nodes of block k, have come. -/
def Laid (N : Nat) (A : Nat → Nat × Nat) (k j : Nat) (l : List Int) : Prop := ∀ m : Nat, m < N → ((A m).1 < k ∨ ((A m).1 = k ∧ (A m).2 < j)) → l[m]? = some ((A m).1 : Int)
theorem Laid.step {N : Nat} {A : Nat → Nat × Nat} {k j : Nat} {l : List Int} (h : Laid N A k j l) (hl : l.length = N) {m : Nat} (hm : m < N) (hA : A m = (k, j)) (hinj : ∀ q : Nat, q < N → A q = (k, j) → q = m) : Laid N A k (j + 1) (l.set m (k : Int)) := by
  intro q hq hc
  by_cases e : m = q
  · subst e
    rw [List.getElem?_set_self (by omega), hA]
  · rw [List.getElem?_set_ne e]
    refine h q hq ?_
    rcases hc with hc | ⟨h1, h2⟩
    · exact .inl hc
    · exact .inr ⟨h1, by
        rcases Nat.lt_or_ge (A q).2 j with h3 | h3
        · exact h3
        · exact absurd (hinj q hq (Prod.ext h1 (by omega))).symm e⟩
theorem Laid.turn {N : Nat} {A : Nat → Nat × Nat} {k : Nat} {l : List Int} {g : GraphP} (hp : Places g A) (hN : N = g.nodes.length) {x : BlockP} (hx : g.blocks[k]? = some x) (h : Laid N A k x.nodes.length l) : Laid N A (k + 1) 0 l := by
  intro m hm hc
  refine h m hm ?_
  rcases hc with hc | ⟨_, h2⟩
  · rcases Nat.lt_or_ge (A m).1 k with h1 | h1
    · exact .inl h1
    · have e : (A m).1 = k := by omega
      obtain ⟨x', hx', hi⟩ := hp.has m (by omega)
      rw [e, hx] at hx'
      injection hx' with hx'
      subst hx'
      exact .inr ⟨e, (List.getElem?_eq_some_iff.1 hi).1⟩
  · omega
theorem take_mem_c {l : List Int} {k : Nat} {c a : Int} (h : l[k]? = some c) : decide (a ∈ l.take (k + 1)) = (decide (a ∈ l.take k) || (c == a)) := by
  rw [List.take_add_one, h]
  by_cases h1 : a ∈ l.take k
  · simp [h1]
  · by_cases h2 : c = a
    · simp [h2]
    · have h3 : a ≠ c := fun e => h2 e.symm
      simp [h1, h2, h3]
/-- Rows, each read in its place. -/
def RowsN (w : World) (b off B : Nat) (f : Nat → List Int) : Prop := b < w.heap.size ∧ ∀ j, j < B → ∃ A c, w.cell? ⟨b, off + j, none⟩ = some (.slice A (f j).length c) ∧ IntsV w w.heap.size (.slice A (f j).length c) (f j)
theorem rowsV_n {w : World} {v : Value} {B : Nat} {f : Nat → List Int} (h : RowsV w w.heap.size v ((List.range B).map f)) (hB : 0 < B) : ∃ b off c, v = .slice (some ⟨b, off, none⟩) B c ∧ RowsN w b off B f := by
  obtain ⟨A, c, hv, _, _, h⟩ := h
  simp only [List.length_map, List.length_range] at hv h
  obtain ⟨b, off, rfl, hb, h⟩ := h hB
  refine ⟨b, off, c, hv, hb, fun j hj => ?_⟩
  obtain ⟨u, h1, h2⟩ := h j (f j) (by simp [hj])
  obtain ⟨A, n, rfl⟩ : ∃ A n, u = .slice A (f j).length n := by obtain ⟨A, n, e, _⟩ := h2; exact ⟨A, n, e⟩
  exact ⟨A, n, h1, h2⟩
theorem RowsN.below {w w' : World} {b off B : Nat} {f : Nat → List Int} (h : RowsN w b off B f) (hb : Below w.heap.size w w') : RowsN w' b off B f :=
  ⟨Nat.lt_of_lt_of_le h.1 hb.size, fun j hj => by obtain ⟨A, c, h1, h2⟩ := h.2 j hj; exact ⟨A, c, (hb.cell (p := ⟨b, off + j, none⟩) h.1).trans h1, h2.later hb (Nat.le_refl _)⟩⟩
/-- The memory of LiveAbove while what is live is looked at. -/
structure AbL (w : World) (ba : Nat) (xv : GVals) (g : GraphP) (l : List Int) (bL bI oI cI : Nat) (vO : Value) (bA oA : Nat) (fI fA : Nat → List Int) (W : World) : Prop where
  am : AbM w ba xv g l W
  lv : Blk W bL 45 #[.slice (some ⟨bI, oI, none⟩) g.blocks.length cI, vO]
  rI : RowsN W bI oI g.blocks.length fI
  rA : RowsN W bA oA g.blocks.length fA
theorem AbL.below {w : World} {ba : Nat} {xv : GVals} {g : GraphP} {l : List Int} {bL bI oI cI : Nat} {vO : Value} {bA oA : Nat} {fI fA : Nat → List Int} {W W' : World} (h : AbL w ba xv g l bL bI oI cI vO bA oA fI fA W) (hb : Below W.heap.size W W') : AbL w ba xv g l bL bI oI cI vO bA oA fI fA W' :=
  ⟨h.am.below hb, h.lv.below hb h.lv.lt, h.rI.below hb, h.rA.below hb⟩
set_option maxRecDepth 100000 in
set_option maxHeartbeats 16000000 in
theorem liveAbove_any (w : World) (pv : Value) (p : List FnP) (xv : GVals) (g : GraphP) (hp : ProgV w w.heap.size pv p) (hg : GraphV w w.heap.size xv g) (hop : ∀ y ∈ g.nodes, 0 ≤ y.op ∧ y.op ≤ 255) (hlc : ∀ f ∈ p, -9223372036854775808 ≤ f.locals) :
    Calls Tryz.prog 4 #[pv, gval g xv] w (Lives20Is w) := by
  have HP := Lib.hid hp; have HG := Lib.hid hg; have HOp := Lib.hid hop; have HLc := Lib.hid hlc
  obtain ⟨vn, vb, vs⟩ := xv
  obtain ⟨An, cn, rfl, _, hln, _⟩ := hg.1
  obtain ⟨Ab, cb, rfl, _, hlb, _⟩ := hg.2.1
  obtain ⟨Ap, cp, rfl, _, hlp, _⟩ := hp
  have hnlim : g.nodes.length ≤ 17592186044416 := by unfold lim at hln; omega
  have hblim : g.blocks.length ≤ 17592186044416 := by unfold lim at hlb; omega
  obtain ⟨w1, hw1⟩ : ∃ w1, w1 = w.alloc (.cells (gbox g ⟨.slice An g.nodes.length cn, .slice Ab g.blocks.length cb, vs⟩) 28) := ⟨_, rfl⟩
  have hb1 : Below w.heap.size w w1 := by rw [hw1]; exact (Below.refl _ _).alloc (Nat.le_refl _) _
  have HC1 : Hid (GCtx w1 w.heap.size w.heap.size ⟨.slice An g.nodes.length cn, .slice Ab g.blocks.length cb, vs⟩ g) := Lib.hid ⟨HG.out.keep (Same.of_below hb1), hb1.size, by rw [hw1]; exact Blk.new _ _ _⟩
  have HB1 := Lib.hid hb1
  unfold gbox at hw1
  simp only at hw1
  clear hg hop hlc hb1 hln hlb hlp
  unfold gval
  go_enter Tryz.func4, Tryz.ntmps4
  go_upto_region 1 with fail
  rw [← hw1]
  clear hw1
  by_cases h100 : 100 < g.blocks.length
  · have h100' : (100 : Int) < g.blocks.length := by omega
    go_wp2_with (first
      | (go_at_call 13; refine (lives20_any _).mono ?_; rintro e w9 ⟨rfl, hb9⟩; have HB9 := Lib.hid hb9; clear hb9)
      | (go_at_call 11; refine (graphSize ⟨.slice An g.nodes.length cn, .slice Ab g.blocks.length cb, vs⟩ g w2 HC2.out.graph).mono ?_; rintro e w3 ⟨M, rfl, hsz, hb3⟩; have HSz := Lib.hid hsz; have HC3 := Lib.hid (HC2.out.below hb3); have HB3 := Lib.hid (HB2.out.trans (hb3.mono HB2.out.size)); obtain ⟨_, _, _, _, q4, _⟩ := HC3.out.cells; have ql := HC3.out.box.lt; clear hb3 hsz; by_cases hM : 5000 < M)
      | (go_at_call 6; refine (programSize_any _ p w1 (HP.out.later HB1.out (Nat.le_refl _))).mono ?_; rintro e w2 ⟨N, rfl, hb2⟩; have HC2 := Lib.hid (HC1.out.below hb2); have HB2 := Lib.hid (HB1.out.trans (hb2.mono HB1.out.size)); obtain ⟨q0, q1, q2, q3, q4, q5⟩ := HC2.out.cells; have ql := HC2.out.box.lt; simp only at q3 q4 q5; clear hb2; by_cases hN : 20000 < N))
    all_goals go_ret
    all_goals first
      | exact ⟨rfl, HB3.out.trans (HB9.out.mono HB3.out.size)⟩
      | exact ⟨rfl, HB2.out.trans (HB9.out.mono HB2.out.size)⟩
  have h100' : ¬ (100 : Int) < g.blocks.length := by omega
  go_upto_region 3 with (first
      | (go_at_call 13; refine (lives20_any _).mono ?_; rintro e w9 ⟨rfl, hb9⟩; have HB9 := Lib.hid hb9; clear hb9)
      | (go_at_call 12; refine (grCheck_any w3 _ p ⟨.slice An g.nodes.length cn, .slice Ab g.blocks.length cb, vs⟩ g (HP.out.later HB3.out (Nat.le_refl _)) HC3.out.graph (by have := HSz.out.2.2 (by omega); unfold Small; omega) HOp.out HLc.out).mono ?_; rintro e w4 ⟨z, rfl, hz, hb4⟩; have HZ := Lib.hid hz; have HC4 := Lib.hid (HC3.out.below hb4); have HB4 := Lib.hid (HB3.out.trans (hb4.mono HB3.out.size)); clear hb4 hz; rcases bool_or (z != 0) with hzz | hzz)
      | (go_at_call 11; refine (graphSize ⟨.slice An g.nodes.length cn, .slice Ab g.blocks.length cb, vs⟩ g w2 HC2.out.graph).mono ?_; rintro e w3 ⟨M, rfl, hsz, hb3⟩; have HSz := Lib.hid hsz; have HC3 := Lib.hid (HC2.out.below hb3); have HB3 := Lib.hid (HB2.out.trans (hb3.mono HB2.out.size)); obtain ⟨_, _, _, _, q4, _⟩ := HC3.out.cells; have ql := HC3.out.box.lt; clear hb3 hsz; by_cases hM : 5000 < M)
      | (go_at_call 6; refine (programSize_any _ p w1 (HP.out.later HB1.out (Nat.le_refl _))).mono ?_; rintro e w2 ⟨N, rfl, hb2⟩; have HC2 := Lib.hid (HC1.out.below hb2); have HB2 := Lib.hid (HB1.out.trans (hb2.mono HB1.out.size)); obtain ⟨q0, q1, q2, q3, q4, q5⟩ := HC2.out.cells; have ql := HC2.out.box.lt; simp only at q3 q4 q5; clear hb2; by_cases hN : 20000 < N))
  all_goals first
    | (go_ret; exact ⟨rfl, HB4.out.trans (HB9.out.mono HB4.out.size)⟩)
    | (go_ret; exact ⟨rfl, HB3.out.trans (HB9.out.mono HB3.out.size)⟩)
    | (go_ret; exact ⟨rfl, HB2.out.trans (HB9.out.mono HB2.out.size)⟩)
    | skip
  have hz0 : z = 0 := by simpa [bne_eq_false_iff_eq] using hzz
  obtain ⟨A, hA⟩ := HZ.out hz0
  have HA := Lib.hid hA
  have HSm : Hid (Small g) := Lib.hid (by have := HSz.out.2.2 (by omega); unfold Small; omega)
  obtain ⟨hs1, hs2, _⟩ := HSm.out.lens
  clear hA hz0 hzz q0 q1 q2 q3 q4 q5 ql h100 h100'
  obtain ⟨i0, hi, hi0, hi1, hi2⟩ := info_parts int_info
  have hmk := fun W : World => run_make (P := Tryz.prog) W 34 3 i0 (.int .i64 0) Tryz.underlying34 hi hi0 .i64 .i64 (g.nodes.length : Int) (g.nodes.length : Int) (by omega) (Int.le_refl _) (by rw [hi2]; omega) (by omega)
  simp only [hi1, Int.toNat_natCast, Value.cells, Nat.mul_one] at hmk
  obtain ⟨q0, q1, q2, q3, q4, q5⟩ := HC4.out.cells
  have ql := HC4.out.box.lt
  simp only at q3 q4 q5
  obtain ⟨w5, hw5⟩ : ∃ w5, w5 = w4.alloc (.cells (madeCells #[.int .i64 0] g.nodes.length) 3) := ⟨_, rfl⟩
  have HM5 : Hid (AbM w w4.heap.size ⟨.slice An g.nodes.length cn, .slice Ab g.blocks.length cb, vs⟩ g (List.replicate g.nodes.length 0) w5) := Lib.hid (by
    have hb : Below w4.heap.size w4 w5 := by rw [hw5]; exact (Below.refl _ _).alloc (Nat.le_refl _) _
    exact ⟨HC4.out.below hb, by rw [hw5, made_ints]; exact Blk.new _ _ _, HB4.out.trans (hb.mono HB4.out.size), HC4.out.box.lt, by simp⟩)
  go_upto_region 4 with fail
  rw [← hw5]
  obtain ⟨ba, hba⟩ : ∃ ba, ba = w4.heap.size := ⟨_, rfl⟩
  rw [← hba] at HM5 ⊢
  clear hw5 hba hmk hi hi0 hi1 hi2 q0 q1 q2 q3 q4 q5 ql HC1 HC2 HC3 HC4
  go_wp2_with fail
  go_loopw [6] (fun i wr => ∃ (k : Nat) (l : List Int), i = .int .i64 k ∧ k ≤ g.blocks.length ∧ Hid (AbM w ba ⟨.slice An g.nodes.length cn, .slice Ab g.blocks.length cb, vs⟩ g l wr) ∧ Hid (Laid g.nodes.length A k 0 l)) (fun i _ => g.blocks.length - (intOf i).toNat)
  case atStart => exact ⟨0, _, rfl, Nat.zero_le _, HM5, Lib.hid (fun m hm hc => by rcases hc with hc | ⟨_, hc⟩ <;> omega)⟩
  case round =>
    obtain ⟨k, l, rfl, hk, HM, HL⟩ := hrel
    have q4 : wr.cell? ⟨w.heap.size, 4, none⟩ = some (.slice Ab g.blocks.length cb) := HM.out.gc.box.cell 4
    have ql := HM.out.gc.box.lt
    by_cases hlt : k < g.blocks.length
    · obtain ⟨x, hx⟩ := getL hlt
      have HX := Lib.hid hx
      go_upto_region 8 with fail
      obtain ⟨wo, rfl⟩ : ∃ wo : World, wo = wr := ⟨_, rfl⟩
      clear q4 ql hx
      go_loopw [7] (fun j wr => ∃ (i : Nat) (l : List Int), j = .int .i64 i ∧ i ≤ x.nodes.length ∧ Hid (AbM w ba ⟨.slice An g.nodes.length cn, .slice Ab g.blocks.length cb, vs⟩ g l wr) ∧ Hid (Laid g.nodes.length A k i l)) (fun j _ => x.nodes.length - (intOf j).toNat)
      case atStart => exact ⟨0, l, rfl, Nat.zero_le _, HM, HL⟩
      case round =>
        obtain ⟨i, l', rfl, hi, HMi, HLi⟩ := hrel
        have q4 : wr.cell? ⟨w.heap.size, 4, none⟩ = some (.slice Ab g.blocks.length cb) := HMi.out.gc.box.cell 4
        have ql := HMi.out.gc.box.lt
        obtain ⟨Ab', cb', eb, _, _, hpb⟩ := HMi.out.gc.gr.2.1
        obtain ⟨bb, ob, rfl, hbb, hpb⟩ := hpb (by omega)
        injection eb with eb1 eb2 eb3
        subst eb1
        obtain ⟨⟨u0, g0, i0⟩, _⟩ := hpb k x HX.out
        have HI0 := Lib.hid i0
        obtain ⟨A0, d0, rfl, _, qq, _⟩ := i0
        have hxl : x.nodes.length ≤ 17592186044416 := by unfold lim at qq; omega
        by_cases hli : i < x.nodes.length
        · obtain ⟨bz, oz, rfl, hbz, hpz⟩ := HI0.out.cells hli
          obtain ⟨zz, hzz⟩ := getL hli
          have fz := hpz i zz hzz
          obtain ⟨m, e, hm, hAm⟩ := HA.out.pl.put k x i zz HX.out hzz
          subst e
          obtain ⟨c, hc⟩ := getL (l := l') (k := m) (by rw [HMi.out.len]; exact hm)
          have fa := HMi.out.cell hc
          have fr := HMi.out.ar.frozen m
          have HAm := Lib.hid hAm; have HZm := Lib.hid hzz
          clear hpb hpz hzz hc hAm
          go_wp2_with fail
          go_roundw
          case rel =>
            refine ⟨i + 1, _, by go_num, by omega, Lib.hid (HMi.out.put m _), Lib.hid (HLi.out.step HMi.out.len hm HAm.out (fun q hq hAq => ?_))⟩
            obtain ⟨x', hx', hi'⟩ := HA.out.pl.has q hq
            rw [hAq] at hx' hi'
            simp only at hx' hi'
            rw [HX.out] at hx'
            injection hx' with hx'
            subst hx'
            rw [HZm.out] at hi'
            injection hi' with hi'
            omega
          case measure => simp [intOf]; omega
        · have ei : i = x.nodes.length := by omega
          subst ei
          clear hpb
          go_wp2_with fail
          go_roundw
          case rel => exact ⟨k + 1, l', by go_num, by omega, HMi, Lib.hid (HLi.out.turn HA.out.pl rfl HX.out)⟩
          case measure => simp [intOf]; omega
    · have ek : k = g.blocks.length := by omega
      subst ek
      go_upto_region 14 with fail
      obtain ⟨w6, hw6⟩ : ∃ w6, w6 = wr := ⟨_, rfl⟩
      rw [← hw6] at HM ⊢
      have hpos := HA.out.pos
      have HAt : Hid (∀ m : Nat, m < g.nodes.length → l[m]? = some ((A m).1 : Int)) := Lib.hid (fun m hm => HL.out m hm (.inl (by obtain ⟨x, hx, _⟩ := HA.out.pl.has m hm; exact (List.getElem?_eq_some_iff.1 hx).1)))
      clear hw6 ql HL hk q4 hlt
      obtain ⟨q0, q1, q2, q3, q4, q5⟩ := HM.out.gc.cells
      have ql := HM.out.gc.box.lt
      simp only at q3 q4 q5
      go_upto_region 16 with (first
        | (go_at_call 15; refine (live_any w7 ⟨.slice An g.nodes.length cn, .slice Ab g.blocks.length cb, vs⟩ g HM7.out.gc.graph HSm.out).mono ?_; rintro e w8 ⟨I, O, vI, vO, rfl, hL, hrI, hrO, hb8⟩; have HLv := Lib.hid hL; have HM8 := Lib.hid (HM7.out.below hb8); have HRA8 := Lib.hid (HRA7.out.below hb8); obtain ⟨bI, oI, cI, rfl, hI⟩ := rowsV_n (f := fun j => listOf g.nodes.length (I.at_ j)) hrI hpos; have HRI := Lib.hid hI; obtain ⟨AO, cO, rfl, _⟩ := hrO; clear hL hrI hb8 hI)
        | (go_at_call 14; refine (above_any w6 g ⟨.slice An g.nodes.length cn, .slice Ab g.blocks.length cb, vs⟩ HSm.out HM.out.gc.graph).mono ?_; rintro e w7 ⟨vA, rfl, hra, hb7⟩; have HM7 := Lib.hid (HM.out.below hb7); obtain ⟨bA, oA, cA, rfl, hA7⟩ := rowsV_n (f := fun b => aboveTo g b g.blocks.length) (rowsA_V hra (Agree.refl _ _ _) (Nat.le_refl _)) hpos; have HRA7 := Lib.hid hA7; clear hra hb7 hA7; obtain ⟨q0, q1, q2, q3, q4, q5⟩ := HM7.out.gc.cells; have ql := HM7.out.gc.box.lt; simp only at q3 q4 q5))
      obtain ⟨VO, hVO⟩ : ∃ VO : Value, VO = (.slice AO (listsTo g.nodes.length O g.blocks.length).length cO) := ⟨_, rfl⟩
      rw [← hVO]
      clear hVO
      obtain ⟨w9, hw9⟩ : ∃ w9, w9 = w8.alloc (.cells #[.slice (some ⟨bI, oI, none⟩) g.blocks.length cI, VO] 45) := ⟨_, rfl⟩
      rw [← hw9]
      have HAL : Hid (AbL w ba ⟨.slice An g.nodes.length cn, .slice Ab g.blocks.length cb, vs⟩ g l w8.heap.size bI oI cI VO bA oA (fun j => listOf g.nodes.length (I.at_ j)) (fun b => aboveTo g b g.blocks.length) w9) := Lib.hid (by
        have hb : Below w8.heap.size w8 w9 := by rw [hw9]; exact (Below.refl _ _).alloc (Nat.le_refl _) _
        exact ⟨HM8.out.below hb, by rw [hw9]; exact Blk.new _ _ _, HRI.out.below hb, HRA8.out.below hb⟩)
      clear hw9 q0 q1 q2 q3 q4 q5 ql HM HM7 HM8 HRA7 HRA8 HRI
      have q4 : w9.cell? ⟨w.heap.size, 4, none⟩ = some (.slice Ab g.blocks.length cb) := HAL.out.am.gc.box.cell 4
      have ql := HAL.out.am.gc.box.lt
      have x0 : w9.cell? ⟨w8.heap.size, 0, none⟩ = some (.slice (some ⟨bI, oI, none⟩) g.blocks.length cI) := HAL.out.lv.cell 0
      have xl := HAL.out.lv.lt
      obtain ⟨Az, cz, p0, _⟩ := HAL.out.rI.2 0 hpos
      have e0 : (listOf g.nodes.length (I.at_ 0)).length = 0 := by rw [live_first HA.out HLv.out]; rfl
      simp only [e0, Nat.add_zero] at p0
      have hbz : ((g.blocks.length : Int) == 0) = false := by rw [← Bool.not_eq_true, beq_iff_eq]; omega
      have hblt := HAL.out.rI.1
      have n0 : g.blocks ≠ [] := fun e => by rw [e] at hpos; simp at hpos
      have n1 : (0 : Int) < g.blocks.length := by omega
      go_upto_region 18 with fail
      clear q4 ql x0 xl p0 e0 hbz hblt n0 n1
      go_wp2_with fail
      go_loopw [11] (fun i wr => ∃ b : Nat, i = .int .i64 b ∧ b ≤ g.blocks.length ∧ Hid (AbL w ba ⟨.slice An g.nodes.length cn, .slice Ab g.blocks.length cb, vs⟩ g l w8.heap.size bI oI cI VO bA oA (fun j => listOf g.nodes.length (I.at_ j)) (fun b => aboveTo g b g.blocks.length) wr)) (fun i _ => g.blocks.length - (intOf i).toNat)
      case atStart => exact ⟨0, rfl, Nat.zero_le _, HAL⟩
      case round =>
        obtain ⟨b, rfl, hb, HAb⟩ := hrel
        clear HAL
        have q4 : wr.cell? ⟨w.heap.size, 4, none⟩ = some (.slice Ab g.blocks.length cb) := HAb.out.am.gc.box.cell 4
        have ql := HAb.out.am.gc.box.lt
        by_cases hltb : b < g.blocks.length
        · go_upto_region 22 with fail
          obtain ⟨wb, rfl⟩ : ∃ wb : World, wb = wr := ⟨_, rfl⟩
          clear q4 ql
          have HbB := Lib.hid hltb
          go_loopw [12] (fun i wr => ∃ i' : Nat, i = .int .i64 i' ∧ i' ≤ (listOf g.nodes.length (I.at_ b)).length ∧ Hid (AbL w ba ⟨.slice An g.nodes.length cn, .slice Ab g.blocks.length cb, vs⟩ g l w8.heap.size bI oI cI VO bA oA (fun j => listOf g.nodes.length (I.at_ j)) (fun b => aboveTo g b g.blocks.length) wr)) (fun i _ => (listOf g.nodes.length (I.at_ b)).length - (intOf i).toNat)
          case atStart => exact ⟨0, rfl, Nat.zero_le _, HAb⟩
          case round =>
            obtain ⟨i, rfl, hi, HAi⟩ := hrel
            have x0 : wr.cell? ⟨w8.heap.size, 0, none⟩ = some (.slice (some ⟨bI, oI, none⟩) g.blocks.length cI) := HAi.out.lv.cell 0
            have xl := HAi.out.lv.lt
            obtain ⟨Ar, cr, pr, ir⟩ := HAi.out.rI.2 b hltb
            have HIr := Lib.hid ir
            have hrl := HAi.out.rI.1
            have hll := listOf_len g.nodes.length (I.at_ b)
            clear ir
            by_cases hlti : i < (listOf g.nodes.length (I.at_ b)).length
            · obtain ⟨bz, oz, rfl, hbz, hpz⟩ := HIr.out.cells hlti
              obtain ⟨nn, hnn⟩ := getL hlti
              have fz := hpz i nn hnn
              have hmem := (mem_listOf (HLv.out.boundI b) nn).1 (List.mem_of_getElem? hnn)
              obtain ⟨m, rfl, hm, hne, hab⟩ := live_above HA.out HLv.out b nn hmem
              obtain ⟨x, hx, _⟩ := HA.out.pl.has m hm
              have hAb := (List.getElem?_eq_some_iff.1 hx).1
              obtain ⟨a, ha⟩ : ∃ a : Nat, a = (A m).1 := ⟨_, rfl⟩
              rw [← ha] at hne hab hAb
              have hlm := HAt.out m hm
              rw [← ha] at hlm
              have HLm := Lib.hid hlm
              have HMem : Hid ((a : Int) ∈ aboveTo g b g.blocks.length) := Lib.hid (mem_aboveTo.2 ⟨a, hAb, rfl, hab⟩)
              have hab1 : ((a : Int) != (b : Int)) = true := by rw [bne_iff_ne]; omega
              clear hpz hnn hmem hx ha hab hlm hne
              go_upto_region 29 with fail
              obtain ⟨wi, rfl⟩ : ∃ wi : World, wi = wr := ⟨_, rfl⟩
              clear x0 xl pr hrl hbz fz
              go_loopw [14, 15] (fun t i wr => ∃ (k : Nat) (tt : Bool), t = .bool tt ∧ i = .int .i64 k ∧ k ≤ (aboveTo g b g.blocks.length).length ∧ Hid (AbL w ba ⟨.slice An g.nodes.length cn, .slice Ab g.blocks.length cb, vs⟩ g l w8.heap.size bI oI cI VO bA oA (fun j => listOf g.nodes.length (I.at_ j)) (fun b => aboveTo g b g.blocks.length) wr) ∧ Hid (tt = decide ((a : Int) ∈ (aboveTo g b g.blocks.length).take k))) (fun _ i _ => (aboveTo g b g.blocks.length).length - (intOf i).toNat)
              case atStart => exact ⟨0, false, rfl, rfl, Nat.zero_le _, HAi, Lib.hid (by simp)⟩
              case round =>
                obtain ⟨k, tt, rfl, rfl, hk, HAk, HT⟩ := hrel
                obtain ⟨Ar, cr, pr, ir⟩ := HAk.out.rA.2 b hltb
                have HIr := Lib.hid ir
                have hrl := HAk.out.rA.1
                have hal := aboveTo_len g b g.blocks.length
                have fm := HAk.out.am.cell HLm.out
                have fl := HAk.out.am.ar.lt
                clear ir
                by_cases hltk : k < (aboveTo g b g.blocks.length).length
                · obtain ⟨by', oy, rfl, hby, hpy⟩ := HIr.out.cells hltk
                  obtain ⟨c, hc⟩ := getL hltk
                  have fy := hpy k c hc
                  have HC := Lib.hid hc
                  clear hpy hc
                  cases tt
                  · rcases bool_or (c == (a : Int)) with hca | hca
                    · have HCa := Lib.hid hca
                      go_upto_region 31 with fail
                      go_quiet (fail)
                      go_wp2_with fail
                      go_roundw
                      case rel => exact ⟨k + 1, false, rfl, by go_num, by omega, Lib.hid (HAk.out.below (below_drewN (Below.refl _ _) _)), Lib.hid (by rw [take_mem_c HC.out, ← HT.out]; first | rfl | (rw [HCa.out]; rfl))⟩
                      case measure => simp [intOf]; omega
                    · have HCa := Lib.hid hca
                      go_upto_region 31 with fail
                      go_quiet (fail)
                      go_wp2_with fail
                      go_roundw
                      case rel => exact ⟨k + 1, true, rfl, by go_num, by omega, Lib.hid (HAk.out.below (below_drewN (Below.refl _ _) _)), Lib.hid (by rw [take_mem_c HC.out, ← HT.out]; first | rfl | (rw [HCa.out]; rfl))⟩
                      case measure => simp [intOf]; omega
                  · have HCa := trivial
                    go_upto_region 31 with fail
                    go_quiet (fail)
                    go_wp2_with fail
                    go_roundw
                    case rel => exact ⟨k + 1, true, rfl, by go_num, by omega, Lib.hid (HAk.out.below (below_drewN (Below.refl _ _) _)), Lib.hid (by rw [take_mem_c HC.out, ← HT.out]; rfl)⟩
                    case measure => simp [intOf]; omega
                · have ek : k = (aboveTo g b g.blocks.length).length := by omega
                  have htt : tt = true := by rw [HT.out, ek, List.take_length]; exact decide_eq_true HMem.out
                  subst htt
                  clear ek
                  go_wp2_with fail
                  go_roundw
                  case rel => exact ⟨i + 1, by go_num, by omega, HAk⟩
                  case measure => simp [intOf]; omega
            · go_wp2_with fail
              go_roundw
              case rel => exact ⟨b + 1, by go_num, by omega, HAi⟩
              case measure => simp [intOf]; omega
        · go_wp2_with (go_at_call 13; refine (lives20_any _).mono ?_; rintro e w10 ⟨rfl, hb10⟩; have HB10 := Lib.hid hb10; clear hb10)
          go_ret
          exact ⟨rfl, HAb.out.am.low.trans (HB10.out.mono HAb.out.am.low.size)⟩
end Go.Proofs.YtkmfdiboekoioaaGreat
