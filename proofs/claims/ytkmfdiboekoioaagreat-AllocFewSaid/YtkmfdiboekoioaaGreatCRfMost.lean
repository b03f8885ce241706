/- All spots of a graph, and how many nodes are together at most, as the reference 21 has it. Conditions: a small graph that lies in memory. -/
import Derived.Test.YtkmfdiboekoioaaGreatCRfBlk
import Derived.Test.YtkmfdiboekoioaaGreatCRfPlaces
set_option linter.unusedSimpArgs false
set_option linter.unusedVariables false
namespace Go.Proofs.YtkmfdiboekoioaaGreat
open Go.RowKit
def lensOf (g : GraphP) (I O : Sets) (b : Nat) : List Nat := match g.blocks[b]? with | some x => (blockSpots g I O b x).map List.length | none => []
def spotLens (g : GraphP) (I O : Sets) (k : Nat) : List Nat := (List.range k).flatMap (lensOf g I O)
theorem spotLens_succ (g : GraphP) (I O : Sets) (k : Nat) {x : BlockP} (h : g.blocks[k]? = some x) : spotLens g I O (k + 1) = spotLens g I O k ++ (blockSpots g I O k x).map List.length := by
 unfold spotLens
 rw [List.range_succ, List.flatMap_append]
 congr 1
 simp [lensOf, h]
theorem blockSpots_len (g : GraphP) (I O : Sets) (b : Nat) (x : BlockP) : 0 < (blockSpots g I O b x).length ∧ (blockSpots g I O b x).length ≤ x.nodes.length + 1 := by
 have := (RStOk.at_ g O b x x.nodes.length 0 (by omega)).out
 unfold blockSpots rEnd
 rw [List.length_append]
 simp
 omega
theorem spotLens_len {g : GraphP} (hs : Small g) (I O : Sets) : ∀ k, k ≤ g.blocks.length → (spotLens g I O k).length ≤ k * 5001
 | 0, _ => by simp [spotLens]
 | k + 1, hk => by
  obtain ⟨x, hx⟩ := getE (l := g.blocks) (k := k) (by omega)
  rw [spotLens_succ g I O k hx, List.length_append, List.length_map, Nat.succ_mul]
  have h1 := spotLens_len hs I O k (by omega)
  have h2 := (blockSpots_len g I O k x).2
  have h3 := (hs.block hx).1
  omega
theorem run_spots_app (W : World) (base base2 : Nat) (ov v : Value) (ns ms : List Nat) (h : SpotsOwn W base ov ns) (hv : SpotsOwn W base2 v ms) (hm : 0 < ms.length) (hb : base ≤ W.heap.size) (hl : ns.length + ms.length ≤ 100000000) (ty : TypeId) :
  ∃ v' w', (Builtin.append_ #[77, 77] ty #[ov, v]).run Tryz.prog W = .ok v' w' ∧ SpotsOwn w' base v' (ns ++ ms) ∧ W.grownBy w' ov.ownBlock := by
 obtain ⟨L, h1, h2⟩ := h
 obtain ⟨M, h3, h4⟩ := hv
 obtain ⟨i, hi, hz0, hz1, hz2⟩ := info_parts spot_info
 have hL : L.length = ns.length := by rw [← h1]; simp
 have hM : M.length = ms.length := by rw [← h3]; simp
 obtain ⟨g, cap, e⟩ : ∃ g cap, v = .slice (some ⟨g, 0, none⟩) M.length cap := by
  rcases h4.2 with ⟨_, h0⟩ | ⟨g, cap, cur, e, _⟩
  ·omega
  ·exact ⟨g, cap, e⟩
 obtain ⟨v', w', hr, ho, hg, _, _⟩ := run_append_own_at (P := Tryz.prog) W base 77 ty 80 i (.agg #[.slice none 0 0, .bool false]) 2 32 Tryz.underlying77 hi hz0 hz1 hz2 rfl (by decide) ov L.length (spCells L) h2 ⟨g, 0, none⟩ M.length cap (spCells M) (spCells_len M)
  (World.ownsRow.cells h4 (by rw [e]; rfl)) spCells_one (by unfold maxLen; omega) (by omega) hb
 rw [← e] at hr
 refine ⟨v', w', hr, ⟨L ++ M, by rw [List.map_append, h1, h3], ?_⟩, hg⟩
 have e2 : spCells (L ++ M) = spCells L ++ spCells M := by simp [spCells]
 rw [e2, List.length_append]
 exact ho
/-- The memory of Spots. -/
structure SpM (w1 : World) (ov : Value) (ns : List Nat) (wr : World) : Prop where
 low : Below w1.heap.size w1 wr
 out : SpotsOwn wr w1.heap.size ov ns
def Spots21 (g : GraphP) (w : World) (e : Ending) (w' : World) : Prop := ∃ (I O : Sets) (v : Value), e = .returned v ∧ LiveIs g I O ∧ SpotsOwn w' w.heap.size v (spotLens g I O g.blocks.length) ∧ Below w.heap.size w w'
set_option maxRecDepth 100000 in
set_option maxHeartbeats 8000000 in
theorem spots21_any (w : World) (xv : GVals) (g : GraphP) (hs : Small g) (hg : GraphV w w.heap.size xv g) : Calls Tryz.prog 33 #[gval g xv] w (Spots21 g w) := by
 have HG := Lib.hid hg
 obtain ⟨vn, vb, vs⟩ := xv
 obtain ⟨⟨An, cn, en, _⟩, ⟨Ab, cb, eb, _⟩, ⟨As, cs, es, _⟩⟩ := hg
 simp only at en eb es
 subst en eb es
 obtain ⟨l1, l2, l3⟩ := hs.lens
 have ee : gval g ⟨.slice An g.nodes.length cn, .slice Ab g.blocks.length cb, .slice As g.states.length cs⟩ = .agg #[.int .i64 g.fn, .int .i64 g.pc, .int .i64 g.slots, .slice An g.nodes.length cn, .slice Ab g.blocks.length cb, .slice As g.states.length cs] := rfl
 have E0 := Lib.hid ee; clear ee
 obtain ⟨w0, hw0⟩ : ∃ w0, w0 = w.alloc (.cells #[.int .i64 g.fn, .int .i64 g.pc, .int .i64 g.slots, .slice An g.nodes.length cn, .slice Ab g.blocks.length cb, .slice As g.states.length cs] 28) := ⟨_, rfl⟩
 have HB0 : Hid (Below w.heap.size w w0) := Lib.hid (by rw [hw0]; exact (Below.refl _ _).alloc (Nat.le_refl _) _)
 have HC0 : Hid (GCtx w0 w.heap.size w.heap.size ⟨.slice An g.nodes.length cn, .slice Ab g.blocks.length cb, .slice As g.states.length cs⟩ g) := Lib.hid ⟨HG.out.keep (Same.of_below HB0.out), HB0.out.size, by rw [hw0]; exact Blk.new _ _ _⟩
 have ho := of20_any w0 ⟨.slice An g.nodes.length cn, .slice Ab g.blocks.length cb, .slice As g.states.length cs⟩ g hs HC0.out.graph
 rw [E0.out] at ho
 have HOf := Lib.hid ho
 clear ho
 rw [E0.out]
 go_enter Tryz.func33, Tryz.ntmps33
 go_upto_region 1 with fail
 rw [← hw0]
 clear hw0
 obtain ⟨q0, q1, q2, q3, q4, q5⟩ := HC0.out.cells
 have ql := HC0.out.lt
 simp only at q3 q4 q5
 go_upto_region 2 with (go_at_call 78; (with_reducible refine Calls.mono HOf.out ?_); rintro e w2 ⟨I, O, vI, vO, rfl, h1, h2, h3, h4⟩; have HLv := Lib.hid h1; have HB2 := Lib.hid h4; obtain ⟨AI, cI, eI, _⟩ := id h2; obtain ⟨AO, cO, eO, _⟩ := id h3; subst eI eO; have HrI := Lib.hid h2; have HrO := Lib.hid h3; clear h1 h2 h3 h4)
 obtain ⟨w3, hw3⟩ : ∃ w3, w3 = w2.alloc (.cells #[.slice AI (listsTo g.nodes.length I g.blocks.length).length cI, .slice AO (listsTo g.nodes.length O g.blocks.length).length cO] 124) := ⟨_, rfl⟩
 have hb3 : Below w2.heap.size w2 w3 := by rw [hw3]; exact (Below.refl _ _).alloc (Nat.le_refl _) _
 have HL3 : Hid (Blk w3 w2.heap.size 124 #[.slice AI (listsTo g.nodes.length I g.blocks.length).length cI, .slice AO (listsTo g.nodes.length O g.blocks.length).length cO]) := Lib.hid (by rw [hw3]; exact Blk.new _ _ _)
 have HrI3 : Hid (RowsV w3 w2.heap.size (.slice AI (listsTo g.nodes.length I g.blocks.length).length cI) (listsTo g.nodes.length I g.blocks.length)) := Lib.hid (HrI.out.keep (Same.of_below hb3))
 have HrO3 : Hid (RowsV w3 w2.heap.size (.slice AO (listsTo g.nodes.length O g.blocks.length).length cO) (listsTo g.nodes.length O g.blocks.length)) := Lib.hid (HrO.out.keep (Same.of_below hb3))
 have HC3 := Lib.hid ((HC0.out.below HB2.out).below hb3)
 have HLow3 : Hid (Below w.heap.size w w3) := Lib.hid (HB0.out.trans ((HB2.out.trans (hb3.mono HB2.out.size)).mono HB0.out.size))
 have HZ3 : Hid (w2.heap.size ≤ w3.heap.size) := Lib.hid hb3.size
 rw [← hw3]
 clear hw3 hb3 q0 q1 q2 q3 q4 q5 ql
 have HM0 : Hid (SpM w3 (.slice none 0 0) [] w3) := Lib.hid ⟨Below.refl _ _, SpotsOwn.nil _ _⟩
 go_wp2_with fail
 go_loopw [4, 5] (fun ov' t wr => ∃ (k : Nat) (ov : Value), ov' = ov ∧ k ≤ g.blocks.length ∧ t = .int .i64 k ∧ Hid (SpM w3 ov (spotLens g I O k) wr)) (fun _ t _ => g.blocks.length - (intOf t).toNat)
 case atStart => exact ⟨0, _, rfl, Nat.zero_le _, rfl, HM0⟩
 case round =>
  obtain ⟨k, ov, ho1, hk, rfl, HM⟩ := hrel
  have ho2 := ho1.symm; subst ho2; clear ho1
  obtain ⟨wq, rfl⟩ : ∃ wq : World, wq = wr := ⟨_, rfl⟩
  have HC := Lib.hid (HC3.out.below HM.out.low)
  obtain ⟨q0, q1, q2, q3, q4, q5⟩ := HC.out.cells
  have ql := HC.out.lt
  simp only at q3 q4 q5
  have p0 : wq.cell? ⟨w2.heap.size, 0, none⟩ = some (.slice AI (listsTo g.nodes.length I g.blocks.length).length cI) := (HL3.out.below HM.out.low HL3.out.lt).cell 0
  have p1 : wq.cell? ⟨w2.heap.size, 1, none⟩ = some (.slice AO (listsTo g.nodes.length O g.blocks.length).length cO) := (HL3.out.below HM.out.low HL3.out.lt).cell 1
  have pl := (HL3.out.below HM.out.low HL3.out.lt).lt
  by_cases hlt : k < g.blocks.length
  ·obtain ⟨x, hx⟩ := getE hlt
   have HX := Lib.hid hx
   clear hx
   have hbk := block21_any wq ⟨.slice An g.nodes.length cn, .slice Ab g.blocks.length cb, .slice As g.states.length cs⟩ g k x I O _ _ hs HC.out.graph HX.out ((HrI3.out.keep (Same.of_below (HM.out.low.mono HZ3.out))).mono (Nat.le_trans HZ3.out HM.out.low.size)) ((HrO3.out.keep (Same.of_below (HM.out.low.mono HZ3.out))).mono (Nat.le_trans HZ3.out HM.out.low.size))
   rw [E0.out] at hbk
   have HBk := Lib.hid hbk
   have HLen : Hid ((spotLens g I O k).length + ((blockSpots g I O k x).map List.length).length ≤ 100000000) := Lib.hid (by
    have h1 := spotLens_len hs I O k hk
    have h2 := (blockSpots_len g I O k x).2
    have h3 := (hs.block HX.out).1
    have h4 : k * 5001 ≤ 5000 * 5001 := Nat.mul_le_mul_right _ (by omega)
    rw [List.length_map]
    omega)
   clear hbk
   go_wp2_with first
    | (go_at_call 79; (with_reducible refine Calls.mono HBk.out ?_); rintro e w4 ⟨v4, rfl, h1, h2⟩; have HM4 : Hid (SpM w3 ov (spotLens g I O k) w4) := Lib.hid ⟨HM.out.low.trans (h2.mono HM.out.low.size), HM.out.out.kept ⟨h2.os, h2.tape, h2.output, h2.size, fun k hk _ => h2.block k hk⟩ (show ov.ownBlock = none ∨ ov.ownBlock ≠ some wq.heap.size from by
      cases hq : ov.ownBlock with
      | none => exact .inl rfl
      | some q => exact .inr fun e => by injection e with e; have := (HM.out.out.lt q hq).2; omega)⟩; obtain ⟨v5, w5, hr5, ho5, hg5⟩ := run_spots_app w4 w3.heap.size wq.heap.size ov v4 (spotLens g I O k) ((blockSpots g I O k x).map List.length) HM4.out.out h1 (by rw [List.length_map]; exact (blockSpots_len g I O k x).1) HM4.out.low.size HLen.out 77; have HM5 : Hid (SpM w3 v5 (spotLens g I O (k + 1)) w5) := Lib.hid ⟨HM4.out.low.grown hg5 HM4.out.low.size (fun q e => (HM4.out.out.lt q e).1), by rw [spotLens_succ g I O k HX.out]; exact ho5⟩; clear h1 h2 ho5 hg5)
    | (at_builtin; refine wpList_append_run rfl (.tmp 15) (.tmp 19) 77 rfl _ _ _ _ rfl rfl hr5 ?_)
   go_roundw
   case rel => exact ⟨k + 1, _, rfl, by omega, by go_num, HM5⟩
   case measure => simp [intOf]; omega
  ·go_wp2_with fail
   go_ret
   have e : k = g.blocks.length := by omega
   subst e
   refine ⟨I, O, _, rfl, HLv.out, ?_, HLow3.out.trans (HM.out.low.mono HLow3.out.size)⟩
   obtain ⟨L, h1, h2⟩ := HM.out.out
   exact ⟨L, h1, World.ownsRow.mono h2 HLow3.out.size⟩
def mostTo (ns : List Nat) (k : Nat) : Nat := (ns.take k).foldl max 0
theorem mostTo_succ {ns : List Nat} {k n : Nat} (h : ns[k]? = some n) : mostTo ns (k + 1) = max (mostTo ns k) n := by
 unfold mostTo
 rw [List.take_add_one, h, List.foldl_append]
 rfl
def mostOf (g : GraphP) (I O : Sets) : Nat := (spotLens g I O g.blocks.length).foldl max 0
def Most21 (g : GraphP) (w : World) (e : Ending) (w' : World) : Prop := ∃ I O : Sets, e = .returned (.int .i64 (mostOf g I O : Nat)) ∧ LiveIs g I O ∧ Below w.heap.size w w'
set_option maxRecDepth 100000 in
set_option maxHeartbeats 8000000 in
theorem most21_any (w : World) (xv : GVals) (g : GraphP) (hs : Small g) (hg : GraphV w w.heap.size xv g) : Calls Tryz.prog 10 #[gval g xv] w (Most21 g w) := by
 have HG := Lib.hid hg
 obtain ⟨vn, vb, vs⟩ := xv
 obtain ⟨⟨An, cn, en, _⟩, ⟨Ab, cb, eb, _⟩, ⟨As, cs, es, _⟩⟩ := hg
 simp only at en eb es
 subst en eb es
 obtain ⟨l1, l2, l3⟩ := hs.lens
 have ee : gval g ⟨.slice An g.nodes.length cn, .slice Ab g.blocks.length cb, .slice As g.states.length cs⟩ = .agg #[.int .i64 g.fn, .int .i64 g.pc, .int .i64 g.slots, .slice An g.nodes.length cn, .slice Ab g.blocks.length cb, .slice As g.states.length cs] := rfl
 have E0 := Lib.hid ee; clear ee
 obtain ⟨w0, hw0⟩ : ∃ w0, w0 = w.alloc (.cells #[.int .i64 g.fn, .int .i64 g.pc, .int .i64 g.slots, .slice An g.nodes.length cn, .slice Ab g.blocks.length cb, .slice As g.states.length cs] 28) := ⟨_, rfl⟩
 have HB0 : Hid (Below w.heap.size w w0) := Lib.hid (by rw [hw0]; exact (Below.refl _ _).alloc (Nat.le_refl _) _)
 have HC0 : Hid (GCtx w0 w.heap.size w.heap.size ⟨.slice An g.nodes.length cn, .slice Ab g.blocks.length cb, .slice As g.states.length cs⟩ g) := Lib.hid ⟨HG.out.keep (Same.of_below HB0.out), HB0.out.size, by rw [hw0]; exact Blk.new _ _ _⟩
 have ho := spots21_any w0 ⟨.slice An g.nodes.length cn, .slice Ab g.blocks.length cb, .slice As g.states.length cs⟩ g hs HC0.out.graph
 rw [E0.out] at ho
 have HSp := Lib.hid ho
 clear ho
 rw [E0.out]
 go_enter Tryz.func10, Tryz.ntmps10
 go_upto_region 1 with fail
 rw [← hw0]
 clear hw0
 obtain ⟨q0, q1, q2, q3, q4, q5⟩ := HC0.out.cells
 have ql := HC0.out.lt
 simp only at q3 q4 q5
 go_upto_region 3 with (go_at_call 33; (with_reducible refine Calls.mono HSp.out ?_); rintro e w2 ⟨I, O, v2, rfl, h1, h2, h3⟩; have HLv := Lib.hid h1; obtain ⟨L, hL1, hL2⟩ := h2; have hv2 : ∃ A c, v2 = .slice A L.length c := (by rcases hL2.2 with ⟨rfl, h0⟩ | ⟨g, cap, cur, rfl, _⟩; exact ⟨none, 0, by rw [h0]⟩; exact ⟨_, _, rfl⟩); obtain ⟨A2, c2, rfl⟩ := hv2; have HL1 := Lib.hid hL1; have HL2 := Lib.hid hL2; have HB2 := Lib.hid h3; clear h1 hL1 hL2 h3)
 clear q0 q1 q2 q3 q4 q5 ql
 have hLlen : L.length ≤ 100000000 := by
  have h1 := spotLens_len hs I O g.blocks.length (Nat.le_refl _)
  rw [← HL1.out, List.length_map] at h1
  have h4 : g.blocks.length * 5001 ≤ 5000 * 5001 := Nat.mul_le_mul_right _ l2
  omega
 go_wp2_with fail
 go_loopw [3, 5] (fun m t wr => ∃ k : Nat, k ≤ L.length ∧ m = .int .i64 (mostTo (L.map (fun p => p.2.1)) k : Nat) ∧ t = .int .i64 k ∧ Hid (wr = w2)) (fun _ t _ => L.length - (intOf t).toNat)
 case atStart => exact ⟨0, Nat.zero_le _, rfl, rfl, Lib.hid rfl⟩
 case round =>
  obtain ⟨k, hk, rfl, rfl, hw'⟩ := hrel
  have hw2 := hw'.out
  subst hw2
  by_cases hlt : k < L.length
  ·obtain ⟨p, hp⟩ := getE hlt
   have HP := Lib.hid hp
   have HMs : Hid (mostTo (L.map (fun p => p.2.1)) (k + 1) = max (mostTo (L.map (fun p => p.2.1)) k) p.2.1) := Lib.hid (mostTo_succ (by rw [List.getElem?_map, HP.out]; rfl))
   obtain ⟨gb, cap, e2⟩ : ∃ gb cap, Value.slice A2 L.length c2 = .slice (some ⟨gb, 0, none⟩) L.length cap := by
    rcases HL2.out.2 with ⟨_, h0⟩ | ⟨g, cap, cur, e, _⟩
    ·omega
    ·exact ⟨g, cap, e⟩
   injection e2 with e3 _ e4
   subst e3 e4
   have c0 : wr.cell? ⟨gb, k * 2, none⟩ = some (.slice p.1 p.2.1 p.2.2.1) := by
    rw [World.ownsRow.cellAt HL2.out (k * 2) (by omega)]
    exact spCells_get HP.out
   have cl := (World.ownsRow.lt HL2.out gb rfl).2
   obtain ⟨n, hn⟩ : ∃ n, n = p.2.1 := ⟨_, rfl⟩
   obtain ⟨mk, hmk⟩ : ∃ mk, mk = mostTo (L.map (fun p => p.2.1)) k := ⟨_, rfl⟩
   rw [← hn] at c0
   rw [← hn, ← hmk] at HMs
   rw [← hmk]
   clear hn hmk hp
   rcases d : decide (mk < n) with _ | _
   ·have D := Lib.hid d
    have d' : decide ((mk : Int) < (n : Int)) = false := by simpa using d
    go_wp2_with fail
    go_roundw
    case rel => exact ⟨k + 1, by omega, by rw [HMs.out, Nat.max_eq_left (by have := of_decide_eq_false D.out; omega)], by go_num, (by first | exact Lib.hid rfl | exact Lib.hid trivial)⟩
    case measure => simp [intOf]; omega
   ·have D := Lib.hid d
    have d' : decide ((mk : Int) < (n : Int)) = true := by simpa using d
    go_wp2_with fail
    go_roundw
    case rel => exact ⟨k + 1, by omega, by rw [HMs.out, Nat.max_eq_right (by have := of_decide_eq_true D.out; omega)], by go_num, (by first | exact Lib.hid rfl | exact Lib.hid trivial)⟩
    case measure => simp [intOf]; omega
  ·go_wp2_with fail
   go_ret
   refine ⟨I, O, ?_, HLv.out, HB0.out.trans (HB2.out.mono HB0.out.size)⟩
   have e : mostTo (L.map (fun p => p.2.1)) k = mostOf g I O := by
    unfold mostTo mostOf
    rw [List.take_of_length_le (by rw [List.length_map]; omega), HL1.out]
   rw [e]
   rfl
end Go.Proofs.YtkmfdiboekoioaaGreat

/- The plain law of AllocFew: greedy registers are just as many as the most nodes that are together. Conditions: the facts of a graph that may be. -/
namespace Go.Proofs.YtkmfdiboekoioaaGreat
open Go.RowKit
section
variable {g : GraphP} {A : Nat → Nat × Nat} {I O : Sets} {b : Nat} {x : BlockP}
theorem add_iff {p : ISet} {N : Nat} {l : List Int} {z : Int} : p.add N l z = true ↔ p z = true ∨ (0 ≤ z ∧ z < (N : Int) ∧ z ∈ l) := ⟨add_true, add_in N l⟩
theorem rFirst_now (g : GraphP) (O : Sets) (b : Nat) (x : BlockP) (z : Int) : z ∈ (rFirst g O b x).now ↔ nowFirst g O b x z = true := by
 unfold rFirst nowFirst
 simp only [mem_more, add_iff]
 simp [ISet.empty]
theorem rAt_now (g : GraphP) (O : Sets) (b : Nat) (x : BlockP) (z : Int) : ∀ (d i : Nat), i + d = x.nodes.length → (z ∈ (rAt g O b x i).now ↔ liveAt g O b x i z = true)
 | 0, i, h => by rw [rAt_len g O b x (by omega), liveAt_len g O b x (by omega)]; exact rFirst_now g O b x z
 | d + 1, i, h => by
  obtain ⟨n, hn⟩ := getE (l := x.nodes) (k := i) (by omega)
  have ih := rAt_now g O b x z d (i + 1) (by omega)
  rw [rAt_step g O b x hn, liveAt_step g O b x hn]
  cases hna : nodeAt g n with
  | none => rw [rStep_none hna, nowStep_none hna]; exact ih
  | some y =>
   have hd : z ∈ lessP (rAt g O b x (i + 1)).now n ↔ (liveAt g O b x (i + 1)).del n z = true := by
    rw [mem_less, ih]
    exact ⟨fun h => del_in h.1 h.2, fun h => del_true h⟩
   by_cases ho : y.op = 2
   ·rw [rStep_phi hna ho, nowStep_phi hna ho]; exact hd
   ·rw [rStep_other hna ho, nowStep_other hna ho]
    simp only [mem_more, add_iff]
    rw [hd]
theorem rAt_phis (g : GraphP) (O : Sets) (b : Nat) (x : BlockP) (z : Int) : ∀ (d i : Nat), i + d = x.nodes.length → (z ∈ (rAt g O b x i).phis ↔ ∃ (j : Nat) (y : NodeP), i ≤ j ∧ x.nodes[j]? = some z ∧ nodeAt g z = some y ∧ y.op = 2)
 | 0, i, h => by
  rw [rAt_len g O b x (by omega)]
  constructor
  ·intro h; simp [rFirst] at h
  ·rintro ⟨j, y, h1, h2, _⟩; rw [List.getElem?_eq_none (by omega)] at h2; cases h2
 | d + 1, i, h => by
  obtain ⟨n, hn⟩ := getE (l := x.nodes) (k := i) (by omega)
  have ih := rAt_phis g O b x z d (i + 1) (by omega)
  have sp : (∃ (j : Nat) (y : NodeP), i ≤ j ∧ x.nodes[j]? = some z ∧ nodeAt g z = some y ∧ y.op = 2) ↔ ((∃ (j : Nat) (y : NodeP), i + 1 ≤ j ∧ x.nodes[j]? = some z ∧ nodeAt g z = some y ∧ y.op = 2) ∨ (z = n ∧ ∃ y, nodeAt g n = some y ∧ y.op = 2)) := by
   constructor
   ·rintro ⟨j, y, h1, h2, h3, h4⟩
    rcases Nat.lt_or_ge i j with q | q
    ·exact .inl ⟨j, y, q, h2, h3, h4⟩
    ·obtain rfl : j = i := by omega
     rw [hn] at h2; injection h2 with h2; subst h2
     exact .inr ⟨rfl, y, h3, h4⟩
   ·rintro (⟨j, y, h1, h2, h3, h4⟩ | ⟨rfl, y, h3, h4⟩)
    ·exact ⟨j, y, by omega, h2, h3, h4⟩
    ·exact ⟨i, y, Nat.le_refl _, hn, h3, h4⟩
  rw [rAt_step g O b x hn, sp, ← ih]
  cases hna : nodeAt g n with
  | none => rw [rStep_none hna]; simp
  | some y =>
   by_cases ho : y.op = 2
   ·rw [rStep_phi hna ho]; simp [ho]
   ·rw [rStep_other hna ho]; simp [ho]
theorem rAt_out (g : GraphP) (O : Sets) (b : Nat) (x : BlockP) (s : List Int) : ∀ (d i : Nat), i + d = x.nodes.length → (s ∈ (rAt g O b x i).out ↔ ∃ (j : Nat) (n : Int) (y : NodeP), i ≤ j ∧ x.nodes[j]? = some n ∧ nodeAt g n = some y ∧ y.op ≠ 2 ∧ s = n :: lessP (rAt g O b x (j + 1)).now n)
 | 0, i, h => by
  rw [rAt_len g O b x (by omega)]
  constructor
  ·intro h; simp [rFirst] at h
  ·rintro ⟨j, n, y, h1, h2, _⟩; rw [List.getElem?_eq_none (by omega)] at h2; cases h2
 | d + 1, i, h => by
  obtain ⟨n, hn⟩ := getE (l := x.nodes) (k := i) (by omega)
  have ih := rAt_out g O b x s d (i + 1) (by omega)
  have sp : (∃ (j : Nat) (m : Int) (y : NodeP), i ≤ j ∧ x.nodes[j]? = some m ∧ nodeAt g m = some y ∧ y.op ≠ 2 ∧ s = m :: lessP (rAt g O b x (j + 1)).now m) ↔ ((∃ (j : Nat) (m : Int) (y : NodeP), i + 1 ≤ j ∧ x.nodes[j]? = some m ∧ nodeAt g m = some y ∧ y.op ≠ 2 ∧ s = m :: lessP (rAt g O b x (j + 1)).now m) ∨ (∃ y, nodeAt g n = some y ∧ y.op ≠ 2 ∧ s = n :: lessP (rAt g O b x (i + 1)).now n)) := by
   constructor
   ·rintro ⟨j, m, y, h1, h2, h3, h4, h5⟩
    rcases Nat.lt_or_ge i j with q | q
    ·exact .inl ⟨j, m, y, q, h2, h3, h4, h5⟩
    ·obtain rfl : j = i := by omega
     rw [hn] at h2; injection h2 with h2; subst h2
     exact .inr ⟨y, h3, h4, h5⟩
   ·rintro (⟨j, m, y, h1, h2, h3, h4, h5⟩ | ⟨y, h3, h4, h5⟩)
    ·exact ⟨j, m, y, by omega, h2, h3, h4, h5⟩
    ·exact ⟨i, n, y, Nat.le_refl _, hn, h3, h4, h5⟩
  rw [rAt_step g O b x hn, sp, ← ih]
  cases hna : nodeAt g n with
  | none => rw [rStep_none hna]; simp
  | some y =>
   by_cases ho : y.op = 2
   ·rw [rStep_phi hna ho]; simp [ho]
   ·rw [rStep_other hna ho]; simp [ho]
/-- A spot: what it holds. -/
theorem spot_cl (hl : LiveIs g I O) (x : BlockP) (z : Int) : z ∈ moreP g.nodes.length (moreP g.nodes.length [] (rAt g O b x 0).phis) (listOf g.nodes.length (I.at_ b)) ↔ InCl g I b x 0 z := by
 simp only [mem_more]
 rw [rAt_phis g O b x z x.nodes.length 0 (by omega)]
 unfold InCl
 constructor
 ·rintro ((h | ⟨_, _, h⟩) | ⟨_, _, h⟩)
  ·cases h
  ·exact .inr h
  ·exact .inl h
 ·rintro (h | h)
  ·have := hl.boundI b z ((mem_listOf (hl.boundI b) z).1 h)
   exact .inr ⟨this.1, this.2, h⟩
  ·have h' := h
   obtain ⟨j, y, _, _, h3, _⟩ := h'
   have := nodeAt_range.1 (show (nodeAt g z).isSome = true by rw [h3]; rfl)
   exact .inl (.inr ⟨this.1, this.2, h⟩)
theorem spots_le (hx : g.blocks[b]? = some x) {s : List Int} (hs : s ∈ blockSpots g I O b x) : s.length ≤ mostOf g I O := by
 have key : ∀ (l : List Nat) (a n : Nat), n ∈ l → n ≤ l.foldl max a := fun l => by
  induction l with
  | nil => exact fun _ _ h => by cases h
  | cons c l ih =>
   intro a n hn
   have up : ∀ (l : List Nat) (a : Nat), a ≤ l.foldl max a := fun l => by
    induction l with
    | nil => exact fun _ => Nat.le_refl _
    | cons c l ih => exact fun a => Nat.le_trans (Nat.le_max_left _ _) (ih _)
   rcases List.mem_cons.1 hn with rfl | hn
   ·exact Nat.le_trans (Nat.le_max_right _ _) (up l _)
   ·exact ih _ n hn
 refine key _ 0 _ ?_
 unfold spotLens
 refine List.mem_flatMap.2 ⟨b, List.mem_range.2 (List.getElem?_eq_some_iff.1 hx).1, ?_⟩
 unfold lensOf
 rw [hx]
 exact List.mem_map_of_mem hs
theorem most_le {M : Nat} (h : ∀ (b : Nat) x s, g.blocks[b]? = some x → s ∈ blockSpots g I O b x → s.length ≤ M) : mostOf g I O ≤ M := by
 have key : ∀ (l : List Nat) (a : Nat), a ≤ M → (∀ n ∈ l, n ≤ M) → l.foldl max a ≤ M := fun l => by
  induction l with
  | nil => exact fun _ h _ => h
  | cons c l ih => exact fun a ha hl => ih _ (Nat.max_le.2 ⟨ha, hl c (by simp)⟩) fun n hn => hl n (by simp [hn])
 refine key _ 0 (Nat.zero_le _) fun n hn => ?_
 unfold spotLens at hn
 obtain ⟨c, _, hn⟩ := List.mem_flatMap.1 hn
 unfold lensOf at hn
 split at hn
 ·rename_i y hy
  obtain ⟨s, hs, rfl⟩ := List.mem_map.1 hn
  exact h c y s hy hs
 ·cases hn
/-- Of each node there is a spot with all that are in its spot. -/
theorem spot_has (h : GOk g A) (hl : LiveIs g I O) {n : Nat} (hn : n < g.nodes.length) : ∃ s : List Int, s.length ≤ mostOf g I O ∧ (n : Int) ∈ s ∧ ∀ z, InSpot g I O A n z → z ∈ s := by
 obtain ⟨x, hx, hi⟩ := h.pl.has n hn
 obtain ⟨y, hy⟩ := getE hn
 have hyn : nodeAt g (n : Int) = some y := by rw [nodeAt_nat]; exact hy
 by_cases ho : y.op = 2
 ·refine ⟨_, spots_le (b := (A n).1) (x := x) (I := I) (O := O) hx (s := moreP g.nodes.length (moreP g.nodes.length [] (rAt g O (A n).1 x 0).phis) (listOf g.nodes.length (I.at_ (A n).1))) (by unfold blockSpots rEnd; simp), (spot_cl hl x _).2 (.inr ⟨_, y, Nat.zero_le _, hi, hyn, ho⟩), fun z hz => ?_⟩
  obtain ⟨xk, y', h1, h2, h3⟩ := hz
  rw [hx] at h1; injection h1 with h1; subst h1
  rw [hy] at h2; injection h2 with h2; subst h2
  rcases h3 with ⟨h3, _⟩ | ⟨_, h3⟩
  ·exact absurd ho h3
  ·exact (spot_cl hl x z).2 h3
 ·refine ⟨_, spots_le (b := (A n).1) (x := x) (I := I) (O := O) hx (s := (n : Int) :: lessP (rAt g O (A n).1 x ((A n).2 + 1)).now (n : Int)) (by
   unfold blockSpots rEnd
   refine List.mem_append_left _ ((rAt_out g O (A n).1 x _ x.nodes.length 0 (by omega)).2 ⟨(A n).2, n, y, Nat.zero_le _, hi, hyn, ho, rfl⟩)), by simp, fun z hz => ?_⟩
  obtain ⟨xk, y', h1, h2, h3⟩ := hz
  rw [hx] at h1; injection h1 with h1; subst h1
  rw [hy] at h2; injection h2 with h2; subst h2
  rcases h3 with ⟨_, h3⟩ | ⟨h3, _⟩
  ·obtain ⟨h3, h4⟩ := del_true h3
   have hil := (List.getElem?_eq_some_iff.1 hi).1
   refine List.mem_cons_of_mem _ (mem_less.2 ⟨(rAt_now g O (A n).1 x z (x.nodes.length - ((A n).2 + 1)) ((A n).2 + 1) (by omega)).2 h3, h4⟩)
  ·exact absurd h3 ho
/-- The nodes of a spot are once each, and meet. -/
theorem spot_meets (h : GOk g A) (hl : LiveIs g I O) (hr : AllReach g) (hp : PhiFirst g A) (hx : g.blocks[b]? = some x) {s : List Int} (hs : s ∈ blockSpots g I O b x) : s.Nodup ∧ (∀ z ∈ s, 0 ≤ z ∧ z < (g.nodes.length : Int)) ∧ ∀ u v : Nat, (u : Int) ∈ s → (v : Int) ∈ s → u ≠ v → meetAll g I O u v = true := by
 unfold blockSpots rEnd at hs
 rcases List.mem_append.1 hs with hs | hs
 ·obtain ⟨j, n, y, _, hj, hy, ho, rfl⟩ := (rAt_out g O b x s x.nodes.length 0 (by omega)).1 hs
  have hjl := (List.getElem?_eq_some_iff.1 hj).1
  have hok := (RStOk.at_ g O b x (x.nodes.length - (j + 1)) (j + 1) (by omega)).now
  have hn0 := nodeAt_range.1 (show (nodeAt g n).isSome = true by rw [hy]; rfl)
  have hnow := fun z => rAt_now g O b x z (x.nodes.length - (j + 1)) (j + 1) (by omega)
  have st : ∀ z, z ∈ lessP (rAt g O b x (j + 1)).now n → meetAll g I O n z = true ∧ meetAll g I O z n = true := fun z hz => by
   obtain ⟨h1, h2⟩ := mem_less.1 hz
   have h3 := del_in ((hnow z).1 h1) h2
   rw [meetAll_iff, meetAll_iff]
   exact ⟨⟨b, x, hx, .inl ⟨j, y, Nat.zero_le _, hj, hy, ho, h3⟩⟩, ⟨b, x, hx, .inr (.inl ⟨j, y, Nat.zero_le _, hj, hy, ho, h3⟩)⟩⟩
  refine ⟨List.nodup_cons.2 ⟨fun hm => (mem_less.1 hm).2 rfl, (hok.less n).1⟩, fun z hz => ?_, fun u v hu hv hne => ?_⟩
  ·rcases List.mem_cons.1 hz with rfl | hz
   ·exact hn0
   ·exact (hok.less n).2 z hz
  ·rcases List.mem_cons.1 hu with hu | hu
   ·rcases List.mem_cons.1 hv with hv | hv
    ·exact absurd (by omega) hne
    ·rw [hu]; exact (st _ hv).1
   ·rcases List.mem_cons.1 hv with hv | hv
    ·rw [hv]; exact (st _ hu).2
    ·exact live_meet h hl hr hp hx (i := j + 1) (by omega) hne ((hnow _).1 (mem_less.1 hu).1) ((hnow _).1 (mem_less.1 hv).1)
 ·simp only [List.mem_singleton] at hs
  subst hs
  have hok : NowOk g.nodes.length (moreP g.nodes.length (moreP g.nodes.length [] (rAt g O b x 0).phis) (listOf g.nodes.length (I.at_ b))) := ((NowOk.nil _).more).more
  refine ⟨hok.1, hok.2, fun u v hu hv hne => ?_⟩
  rw [meetAll_iff]
  exact ⟨b, x, hx, .inr (.inr ⟨(spot_cl hl x _).1 hu, (spot_cl hl x _).1 hv, by omega⟩)⟩
theorem meet_symm {u v : Int} (h : meetAll g I O u v = true) : meetAll g I O v u = true := by
 rw [meetAll_iff] at h ⊢
 obtain ⟨b, x, hx, h⟩ := h
 refine ⟨b, x, hx, ?_⟩
 rcases h with h | h | ⟨h1, h2, h3⟩
 ·exact .inr (.inl h)
 ·exact .inl h
 ·exact .inr (.inr ⟨h2, h1, h3.symm⟩)
/-- While registers are given. -/
structure GInv (g : GraphP) (I O : Sets) (l rs : List Int) : Prop where
 len : rs.length = g.nodes.length
 have_ : ∀ n : Nat, n < g.nodes.length → ((n : Int) ∈ l ↔ 0 ≤ rs.getD n 0)
 few : ∀ n : Nat, n < g.nodes.length → (n : Int) ∈ l → rs.getD n 0 < (mostOf g I O : Int)
 apart : ∀ n k : Nat, n < g.nodes.length → k < g.nodes.length → (n : Int) ∈ l → (k : Int) ∈ l → n ≠ k → meetAll g I O n k = true → rs.getD n 0 ≠ rs.getD k 0
theorem getD_set {rs : List Int} {n k : Nat} {r : Int} (hn : n < rs.length) : (rs.set n r).getD k 0 = if k = n then r else rs.getD k 0 := by
 rw [List.getD_eq_getElem?_getD, List.getElem?_set]
 by_cases e : n = k
 ·subst e; simp [hn]
 ·have e2 : ¬ k = n := fun q => e q.symm
  simp [e, e2]
theorem greedy (h : GOk g A) (hl : LiveIs g I O) (hr : AllReach g) (hp : PhiFirst g A) {l rs : List Int} (ht : GTo (meetAll g I O) g.nodes.length l rs) : (∃ suf, orderOf g = l ++ suf) → (∀ z ∈ orderOf g, 0 ≤ z ∧ z < (g.nodes.length : Int)) → GInv g I O l rs := by
 induction ht with
 | nil =>
  intro _ _
  refine ⟨by simp, fun n hn => ?_, (fun n _ h => by cases h), (fun n k _ _ h => by cases h)⟩
  rw [List.getD_eq_getElem?_getD, List.getElem?_replicate, if_pos hn]
  simp
 | snoc l n rs rs' ht hs ih =>
  intro hpre hin
  obtain ⟨suf, hsuf⟩ := hpre
  have hi := ih ⟨(n : Int) :: suf, by rw [hsuf]; simp⟩ hin
  have hn : n < g.nodes.length := by
   have := hin (n : Int) (by rw [hsuf]; simp)
   omega
  rcases hs with ⟨h0, rfl⟩ | ⟨h0, r, hf, rfl⟩
  ·have hm := (hi.have_ n hn).2 h0
   have hmem : ∀ z : Int, z ∈ l ++ [(n : Int)] ↔ z ∈ l := fun z => by
    simp only [List.mem_append, List.mem_singleton]
    exact ⟨fun h => h.elim id (fun e => e ▸ hm), .inl⟩
   refine ⟨hi.len, fun k hk => by rw [hmem]; exact hi.have_ k hk, fun k hk hkm => hi.few k hk ((hmem _).1 hkm), fun a c ha hc ham hcm => hi.apart a c ha hc ((hmem _).1 ham) ((hmem _).1 hcm)⟩
  ·have hnl : (n : Int) ∉ l := fun hm => by have := (hi.have_ n hn).1 hm; omega
   have hnr : n < rs.length := by rw [hi.len]; exact hn
   have ord := orderOf_ok h.pl hr
   -- whom n meets among those that are done
   have hin1 : ∀ k : Nat, k < g.nodes.length → (k : Int) ∈ l → meetAll g I O n k = true → InSpot g I O A n (k : Int) := fun k hk hkl hmk => by
    have hne : n ≠ k := fun e => hnl (by rw [e]; exact hkl)
    rcases meet_spot h hl hr hp hn hk hne hmk with q | q
    ·exact q
    ·exfalso
     obtain ⟨p1, p2, e⟩ := List.append_of_mem hkl
     have := ord p1 (k : Int) (p2 ++ (n : Int) :: suf) (by rw [hsuf, e]; simp) n k rfl hn hk q
     exact hnl (by rw [e]; simp [this])
   have htk : ∀ k : Nat, k < g.nodes.length → meetAll g I O n k = true → takenOf (meetAll g I O) rs n (rs.getD k 0) = true := fun k hk hmk => by
    unfold takenOf
    rw [List.any_eq_true]
    exact ⟨k, List.mem_range.2 (by rw [hi.len]; exact hk), by simp [hmk]⟩
   have hrm : r < (mostOf g I O : Int) := by
    obtain ⟨s, hs1, hs2, hs3⟩ := spot_has h hl hn
    have hsub : ∀ q ∈ natsTo r.toNat, q ∈ (s.erase (n : Int)).map (fun z => rs.getD z.toNat 0) := fun q hq => by
     unfold natsTo at hq
     obtain ⟨j, hj, rfl⟩ := List.mem_map.1 hq
     have hj := List.mem_range.1 hj
     have ht := hf.2.2 (j : Int) (by omega) (by have := hf.1; omega)
     unfold takenOf at ht
     obtain ⟨k, hk, hk2⟩ := List.any_eq_true.1 ht
     simp only [Bool.and_eq_true, beq_iff_eq] at hk2
     have hkl : k < g.nodes.length := by rw [← hi.len]; exact List.mem_range.1 hk
     have hkm := (hi.have_ k hkl).2 (by rw [hk2.2]; omega)
     have hks := hs3 _ (hin1 k hkl hkm hk2.1)
     refine List.mem_map.2 ⟨(k : Int), ?_, by rw [Int.toNat_natCast]; exact hk2.2⟩
     have hne : (k : Int) ≠ (n : Int) := fun e => hnl (by rw [← e]; exact hkm)
     exact (List.mem_erase_of_ne hne).2 hks
    have hnd : (natsTo r.toNat).Nodup := by
     unfold natsTo
     refine List.pairwise_map.2 (List.Pairwise.imp ?_ List.nodup_range)
     intro a b hab q
     exact hab (by omega)
    have h1 := nodup_le _ _ hnd hsub
    rw [natsTo_len, List.length_map, List.length_erase_of_mem hs2] at h1
    have h2 : 0 < s.length := List.length_pos_of_mem hs2
    have := hf.1
    omega
   refine ⟨by rw [List.length_set]; exact hi.len, fun k hk => ?_, fun k hk hkm => ?_, fun a c ha hc ham hcm hne hm => ?_⟩
   ·rw [getD_set hnr, List.mem_append, List.mem_singleton]
    by_cases e : k = n
    ·subst e; simp [hf.1]
    ·rw [if_neg e, ← hi.have_ k hk]
     exact ⟨fun q => q.elim id (fun q => absurd (by omega) e), .inl⟩
   ·rw [getD_set hnr]
    by_cases e : k = n
    ·rw [if_pos e]; exact hrm
    ·rw [if_neg e]
     rw [List.mem_append, List.mem_singleton] at hkm
     exact hi.few k hk (hkm.elim id (fun q => absurd (by omega) e))
   ·rw [getD_set hnr, getD_set hnr]
    rw [List.mem_append, List.mem_singleton] at ham hcm
    by_cases ea : a = n
    ·have ec : ¬ c = n := fun q => hne (ea.trans q.symm)
     rw [if_pos ea, if_neg ec]
     subst ea
     intro e
     have := htk c hc hm
     rw [← e, hf.2.1] at this
     cases this
    ·by_cases ec : c = n
     ·rw [if_neg ea, if_pos ec]
      subst ec
      intro e
      have := htk a ha (meet_symm hm)
      rw [e, hf.2.1] at this
      cases this
     ·rw [if_neg ea, if_neg ec]
      exact hi.apart a c ha hc (ham.elim id (fun q => absurd (by omega) ea)) (hcm.elim id (fun q => absurd (by omega) ec)) hne hm
/-- The number of registers. -/
def regsOf (rs : List Int) : Int := rs.foldl (fun m r => max m (r + 1)) 0
theorem regs_up : ∀ (l : List Int) (a : Int), a ≤ l.foldl (fun m r => max m (r + 1)) a ∧ ∀ r ∈ l, r + 1 ≤ l.foldl (fun m r => max m (r + 1)) a
 | [], a => ⟨Int.le_refl _, fun _ h => by cases h⟩
 | c :: l, a => by
  obtain ⟨h1, h2⟩ := regs_up l (max a (c + 1))
  rw [List.foldl_cons]
  refine ⟨by omega, fun r hr => ?_⟩
  rcases List.mem_cons.1 hr with rfl | hr
  ·omega
  ·exact h2 r hr
theorem regs_le : ∀ (l : List Int) (a M : Int), a ≤ M → (∀ r ∈ l, r + 1 ≤ M) → l.foldl (fun m r => max m (r + 1)) a ≤ M
 | [], _, _, h, _ => h
 | c :: l, a, M, h, hl => regs_le l _ M (by have := hl c (by simp); simp only; omega) (fun r hr => hl r (by simp [hr]))
theorem few_regs (h : GOk g A) (hl : LiveIs g I O) (hr : AllReach g) (hp : PhiFirst g A) (hin : ∀ z ∈ orderOf g, 0 ≤ z ∧ z < (g.nodes.length : Int)) {rs : List Int} (ht : GTo (meetAll g I O) g.nodes.length (orderOf g) rs) : regsOf rs = (mostOf g I O : Int) := by
 have hi := greedy h hl hr hp ht ⟨[], by simp⟩ hin
 have hall : ∀ n : Nat, n < g.nodes.length → (n : Int) ∈ orderOf g := fun n hn => by
  unfold orderOf natsTo
  exact List.mem_append_right _ (List.mem_map.2 ⟨n, List.mem_range.2 hn, rfl⟩)
 have hle : regsOf rs ≤ (mostOf g I O : Int) := regs_le rs 0 _ (by omega) (fun r hr => by
  obtain ⟨k, hk⟩ := List.mem_iff_getElem?.1 hr
  have hkl : k < g.nodes.length := by rw [← hi.len]; exact (List.getElem?_eq_some_iff.1 hk).1
  have := hi.few k hkl (hall k hkl)
  rw [List.getD_eq_getElem?_getD, hk, Option.getD_some] at this
  omega)
 have hge : mostOf g I O ≤ (regsOf rs).toNat := most_le fun b x s hx hs => by
  obtain ⟨h1, h2, h3⟩ := spot_meets h hl hr hp hx hs
  have hrs : ∀ z ∈ s, 0 ≤ rs.getD z.toNat 0 ∧ rs.getD z.toNat 0 < regsOf rs := fun z hz => by
   obtain ⟨q1, q2⟩ := h2 z hz
   have hzl : z.toNat < g.nodes.length := by omega
   refine ⟨(hi.have_ z.toNat hzl).1 (hall _ hzl), ?_⟩
   have hzr : z.toNat < rs.length := by rw [hi.len]; exact hzl
   have := (regs_up rs 0).2 _ (getD_mem hzr)
   unfold regsOf
   omega
  have hnd : (s.map (fun z => rs.getD z.toNat 0)).Nodup := by
   refine List.pairwise_map.2 (List.Pairwise.imp_of_mem ?_ h1)
   intro a c ha hc hne e
   obtain ⟨a1, a2⟩ := h2 a ha
   obtain ⟨c1, c2⟩ := h2 c hc
   have m := h3 a.toNat c.toNat (by rw [show ((a.toNat : Nat) : Int) = a by omega]; exact ha) (by rw [show ((c.toNat : Nat) : Int) = c by omega]; exact hc) (by omega)
   exact hi.apart a.toNat c.toNat (by omega) (by omega) (hall _ (by omega)) (hall _ (by omega)) (by omega) m e
  have := bounded_len (N := (regsOf rs).toNat) hnd (fun z hz => by
   obtain ⟨y, hy, rfl⟩ := List.mem_map.1 hz
   have := hrs y hy
   omega)
  simpa using this
 have : 0 ≤ regsOf rs := (regs_up rs 0).1
 omega
end
end Go.Proofs.YtkmfdiboekoioaaGreat
