/- The walk of graph.Above. Conditions: a graph that is small. -/
import Derived.Test.YtkmfdiboekoioaaGreatCReach
set_option linter.unusedSimpArgs false
set_option linter.unusedVariables false
namespace Go.Proofs.YtkmfdiboekoioaaGreat
open Go.RowKit

/-- Each way to block b goes through a. -/
def abv (g : GraphP) (a b : Nat) : Prop := ¬ Reach g (-1) 0 (b : Int) ∨ a = b ∨ ¬ Reach g (a : Int) 0 (b : Int)
open Classical in
noncomputable def aboveTo (g : GraphP) (b k : Nat) : List Int := ((List.range k).filter (fun a => decide (abv g a b))).map (fun (a : Nat) => (a : Int))
theorem aboveTo_yes {g : GraphP} {b k : Nat} (h : abv g k b) : aboveTo g b (k + 1) = aboveTo g b k ++ [(k : Int)] := by
 unfold aboveTo; rw [List.range_succ, List.filter_append, List.map_append]; simp [h]
theorem aboveTo_no {g : GraphP} {b k : Nat} (h : ¬ abv g k b) : aboveTo g b (k + 1) = aboveTo g b k := by
 unfold aboveTo; rw [List.range_succ, List.filter_append, List.map_append]; simp [h]
theorem aboveTo_len (g : GraphP) (b k : Nat) : (aboveTo g b k).length ≤ k := by
 unfold aboveTo; rw [List.length_map]; exact Nat.le_trans (List.length_filter_le _ _) (by simp)
theorem mem_aboveTo {g : GraphP} {b k : Nat} {x : Int} : x ∈ aboveTo g b k ↔ ∃ a : Nat, a < k ∧ x = a ∧ abv g a b := by
 unfold aboveTo
 simp only [List.mem_map, List.mem_filter, List.mem_range, decide_eq_true_eq]
 constructor
 ·rintro ⟨a, ⟨h1, h2⟩, rfl⟩; exact ⟨a, h1, rfl, h2⟩
 ·rintro ⟨a, h1, rfl, h2⟩; exact ⟨a, ⟨h1, h2⟩, rfl⟩

/-- A table of slices of integers, each of which has its own row. -/
structure Tab (w : World) (base bo : Nat) (L : Tracked) : Prop where
 row : Blk w bo 34 (firsts L).toArray
 own : ∀ p ∈ L, OwnInts w base p.1 p.2
 apart : ∀ (i j : Nat) p q, L[i]? = some p → L[j]? = some q → i ≠ j → p.1.ownBlock = none ∨ p.1.ownBlock ≠ q.1.ownBlock
section
variable {w w' w1 : World} {base bo : Nat} {L : Tracked}
theorem Tab.below (h : Tab w base bo L) (hb : Below w.heap.size w w') : Tab w' base bo L := ⟨h.row.below hb h.row.lt, fun p hp => (h.own p hp).below hb, h.apart⟩
theorem Tab.drewN (h : Tab w base bo L) (n : Nat) : Tab (w.drewN n) base bo L := h.below (below_drewN (Below.refl _ _) n)
theorem own_ne_blk {v : Value} {l : List Int} {b : Nat} {t : TypeId} {cs : Array Value} (h : OwnInts w base v l) (hb : Blk w b t cs) (ht : t ≠ 3) : v.ownBlock ≠ some b := by
 rcases h.2 with ⟨rfl, _⟩ | ⟨g, cap, cur, rfl, _, hgb, _⟩
 ·simp [Value.ownBlock]
 ·intro e'
  obtain rfl : g = b := by simpa [Value.ownBlock] using e'
  unfold Blk at hb
  rw [hb] at hgb
  injection hgb with e
  injection e with _ e _
  exact ht e
/-- A row has been appended to, and stored back. -/
theorem Tab.put (h : Tab w base bo L) {j : Nat} {v v' : Value} {l l' : List Int} {tmp : Obj} (hj : L[j]? = some (v, l)) (ho : OwnInts w1 base v' l') (hg : (w.alloc tmp).grownBy w1 v.ownBlock) (hv : v'.ownBlock = v.ownBlock ∨ v'.ownBlock = some (w.alloc tmp).heap.size) :
  Tab (w1.setCell ⟨bo, j, none⟩ v') base bo (L.set j (v', l')) ∧ Blk w1 bo 34 (firsts L).toArray := by
 have hmem : (v, l) ∈ L := List.mem_of_getElem? hj
 have hjl : j < L.length := (List.getElem?_eq_some_iff.1 hj).1
 have hr1 : Blk w1 bo 34 (firsts L).toArray := (h.row.alloc tmp).grown hg (fun e => own_ne_blk (h.own _ hmem) h.row (by decide) e.symm)
 refine ⟨⟨?_, ?_, ?_⟩, hr1⟩
 ·have := hr1.set_ j v'
  have e : (firsts L).toArray.setIfInBounds j v' = (firsts (L.set j (v', l'))).toArray := by simp [firsts, List.map_set]
  rw [e] at this
  exact this
 ·intro p hp
  have key : OwnInts w1 base p.1 p.2 := by
   rcases List.mem_iff_getElem?.1 hp with ⟨i, hi⟩
   rw [List.getElem?_set] at hi
   by_cases e : j = i
   ·rw [if_pos e, if_pos (e ▸ hjl)] at hi
    injection hi with hi; subst hi
    exact ho
   ·rw [if_neg e] at hi
    have hp' := List.mem_of_getElem? hi
    refine World.ownsRow.kept ((h.own p hp').below ((Below.refl _ _).alloc (Nat.le_refl _) tmp)) hg ?_
    exact h.apart i j p (v, l) hi hj (fun e' => e e'.symm)
  have hr2 : Blk w1 bo 34 (firsts L).toArray := hr1
  refine World.ownsRow.kept (row := some bo) key ⟨rfl, rfl, rfl, by simp [World.setCell], fun k _ hk => Below.heap_setCell _ _ _ k (fun e => hk (by rw [e]))⟩ (.inr (own_ne_blk key hr2 (by decide)))
 ·have fresh : ∀ (i : Nat) p, L[i]? = some p → p.1.ownBlock = none ∨ p.1.ownBlock ≠ some (w.alloc tmp).heap.size := fun i p hi => by
   cases hb : p.1.ownBlock with
   | none => exact .inl rfl
   | some k =>
    refine .inr fun e => ?_
    injection e with e
    have := (World.ownsRow.lt (h.own p (List.mem_of_getElem? hi)) k hb).2
    rw [e, World.size_alloc] at this
    omega
  intro i k p q hi hk hik
  rw [List.getElem?_set] at hi hk
  by_cases e1 : j = i
  ·rw [if_pos e1, if_pos (e1 ▸ hjl)] at hi
   injection hi with hi; subst hi
   rw [if_neg (fun e => hik (e1.symm.trans e))] at hk
   rcases hv with hv | hv
   ·rw [hv]; exact h.apart j k (v, l) q hj hk (fun e => hik (e1.symm.trans e))
   ·rw [hv]
    rcases fresh k q hk with h1 | h1
    ·right; rw [h1]; simp
    ·right; exact fun e => h1 e.symm
  ·rw [if_neg e1] at hi
   by_cases e2 : j = k
   ·rw [if_pos e2, if_pos (e2 ▸ hjl)] at hk
    injection hk with hk; subst hk
    rcases hv with hv | hv
    ·rw [hv]; exact h.apart i j p (v, l) hi hj (fun e => e1 e.symm)
    ·rw [hv]; exact fresh i p hi
   ·rw [if_neg e2] at hk
    exact h.apart i k p q hi hk hik
theorem Tab.cell (h : Tab w base bo L) {j : Nat} {v : Value} {l : List Int} (hj : L[j]? = some (v, l)) : w.cell? ⟨bo, j, none⟩ = some v := by
 rw [h.row.cell]
 simp [firsts, hj]
theorem Tab.rows (h : Tab w base bo L) (hl : ∀ p ∈ L, p.2.length ≤ lim) (hL : L.length ≤ lim) : RowsV w w.heap.size (.slice (some ⟨bo, 0, none⟩) L.length L.length) (L.map (fun p => p.2)) := by
 refine ⟨some ⟨bo, 0, none⟩, L.length, by simp, by simp, by simpa using hL, fun _ => ⟨bo, 0, rfl, h.row.lt, fun j l hj => ?_⟩⟩
 rw [List.getElem?_map] at hj
 cases hp : L[j]? with
 | none => rw [hp] at hj; cases hj
 | some p =>
  rw [hp] at hj; injection hj with hj; subst hj
  refine ⟨p.1, ?_, (h.own p (List.mem_of_getElem? hp)).ints (hl p (List.mem_of_getElem? hp))⟩
  have := h.cell (v := p.1) (l := p.2) hp
  simpa using this
/-- Rows that can be read in whatever world is so from lo to hi. -/
def Agree (lo hi : Nat) (w W : World) : Prop := ∀ k, lo ≤ k → k < hi → W.heap[k]? = w.heap[k]?
theorem Agree.refl (lo hi : Nat) (w : World) : Agree lo hi w w := fun _ _ _ => rfl
theorem Agree.trans {lo hi : Nat} {a b c : World} (h : Agree lo hi a b) (k : Agree lo hi b c) : Agree lo hi a c := fun i h1 h2 => (k i h1 h2).trans (h i h1 h2)
def RowsA (lo hi : Nat) (w : World) (v : Value) (ls : List (List Int)) : Prop :=
 ∃ b off c, v = .slice (some ⟨b, off, none⟩) ls.length c ∧ ls.length ≤ c ∧ ls.length ≤ lim ∧ b < hi ∧ ∀ (j : Nat) l, ls[j]? = some l → ∃ A n, ∀ W : World, Agree lo hi w W → W.cell? ⟨b, off + j, none⟩ = some (.slice A l.length n) ∧ IntsV W hi (.slice A l.length n) l
theorem RowsA.keep {lo hi : Nat} {w w' : World} {v : Value} {ls : List (List Int)} (h : RowsA lo hi w v ls) (hk : Agree lo hi w w') : RowsA lo hi w' v ls := by
 obtain ⟨b, off, c, h1, h2, h3, h4, h5⟩ := h
 refine ⟨b, off, c, h1, h2, h3, h4, fun j l hl => ?_⟩
 obtain ⟨A, n, h6⟩ := h5 j l hl
 exact ⟨A, n, fun W hW => h6 W (hk.trans hW)⟩
theorem OwnInts.intsA {w W : World} {base : Nat} {v : Value} {l : List Int} (h : OwnInts w base v l) (hl : l.length ≤ lim) (ha : ∀ k, base ≤ k → k < w.heap.size → W.heap[k]? = w.heap[k]?) : IntsV W w.heap.size v l := by
 obtain ⟨A, c, hv, hc, hl2, hp⟩ := h.ints hl
 refine ⟨A, c, hv, hc, hl2, fun h0 => ?_⟩
 obtain ⟨b, off, hA, hb, hq⟩ := hp h0
 refine ⟨b, off, hA, hb, fun j x hx => ?_⟩
 have hbb : base ≤ b := (World.ownsRow.lt h b (by rw [hv, hA]; rfl)).1
 exact (World.cell?_of_block (ha b hbb hb)).trans (hq j x hx)
theorem Tab.rowsA (h : Tab w base bo L) (hl : ∀ p ∈ L, p.2.length ≤ lim) (hL : L.length ≤ lim) (hbo : base ≤ bo) : RowsA base w.heap.size w (.slice (some ⟨bo, 0, none⟩) L.length L.length) (L.map (fun p => p.2)) := by
 refine ⟨bo, 0, L.length, by simp, by simp, by simpa using hL, h.row.lt, fun j l hj => ?_⟩
 rw [List.getElem?_map] at hj
 cases hp : L[j]? with
 | none => rw [hp] at hj; cases hj
 | some p =>
  rw [hp] at hj; injection hj with hj; subst hj
  have hmem := List.mem_of_getElem? hp
  obtain ⟨A, n, e, _⟩ := (h.own p hmem).ints (hl p hmem)
  refine ⟨A, n, fun W hW => ?_⟩
  have h1 := (h.own p hmem).intsA (hl p hmem) hW
  rw [e] at h1
  have := h.cell (v := p.1) (l := p.2) hp
  rw [Nat.zero_add, ← e]
  exact ⟨(World.cell?_of_block (hW bo hbo h.row.lt)).trans this, by rw [e]; exact h1⟩
end
/-- The table while block a is asked of, up to block j. -/
noncomputable def tbl (g : GraphP) (a j : Nat) : List (List Int) := (List.range g.blocks.length).map (fun b => aboveTo g b (if b < j then a + 1 else a))
theorem tbl_first (g : GraphP) : tbl g 0 0 = (List.replicate g.blocks.length ([] : List Int)) := by
 unfold tbl
 apply List.ext_getElem
 ·simp
 ·intro i h1 h2
  simp [aboveTo]
theorem tbl_turn (g : GraphP) (a : Nat) : tbl g a g.blocks.length = tbl g (a + 1) 0 := by
 unfold tbl
 apply List.map_congr_left
 intro b hb
 simp only [List.mem_range] at hb
 rw [if_pos hb, if_neg (by omega)]
theorem tbl_get {g : GraphP} {a j : Nat} (h : j < g.blocks.length) : (tbl g a j)[j]? = some (aboveTo g j a) := by simp [tbl, h]
theorem tbl_yes {g : GraphP} {a j : Nat} (h : j < g.blocks.length) (ha : abv g a j) : (tbl g a j).set j (aboveTo g j a ++ [(a : Int)]) = tbl g a (j + 1) := by
 rw [← aboveTo_yes ha]
 apply List.ext_getElem?
 intro i
 rw [List.getElem?_set]
 by_cases e : j = i
 ·subst e
  simp [tbl, h]
 ·rw [if_neg e]
  simp only [tbl, List.getElem?_map]
  by_cases hi : i < g.blocks.length
  ·simp only [List.getElem?_range hi, Option.map_some]
   have : (i < j) ↔ (i < j + 1) := by omega
   simp only [this]
  ·rw [List.getElem?_eq_none (by simpa using hi)]; rfl
theorem tbl_no {g : GraphP} {a j : Nat} (ha : ¬ abv g a j) : tbl g a j = tbl g a (j + 1) := by
 unfold tbl
 apply List.map_congr_left
 intro b _
 by_cases e : b = j
 ·subst e
  rw [if_neg (Nat.lt_irrefl _), if_pos (by omega), aboveTo_no ha]
 ·have : (b < j) ↔ (b < j + 1) := by omega
  simp only [this]

/-- The memory of graph.Above. -/
structure AMem (w : World) (g : GraphP) (xv : GVals) (bo r1 : Nat) (q1 : ISet) (L : Tracked) (wr : World) : Prop where
 gr : GCtx wr w.heap.size w.heap.size xv g
 tab : Tab wr w.heap.size bo L
 s1 : SetM wr r1 q1
 low : Below w.heap.size w wr
 bo_ : w.heap.size < bo
section
variable {w : World} {g : GraphP} {xv : GVals} {bo r1 : Nat} {q1 : ISet} {L : Tracked} {wr w2 : World}
theorem AMem.below (h : AMem w g xv bo r1 q1 L wr) (hb : Below wr.heap.size wr w2) : AMem w g xv bo r1 q1 L w2 :=
 ⟨h.gr.below hb, h.tab.below hb, h.s1.below hb, h.low.trans (hb.mono h.low.size), h.bo_⟩
theorem AMem.map_ {j : Nat} {v v' : Value} {l : List Int} {tmp : Obj} {r : Nat} {q : ISet} {w4 : World} (h : AMem w g xv bo r1 q1 L wr) (hj : L[j]? = some (v, l)) (hs : SetM wr r q) (hg : (wr.alloc tmp).grownBy w4 v.ownBlock) : SetM (w4.setCell ⟨bo, j, none⟩ v') r q :=
 IMap.setCell (IMap.grown (IMap.alloc hs tmp) hg (fun e => own_ne_map' (h.tab.own _ (List.mem_of_getElem? hj)) hs e.symm)) _ _
theorem AMem.put {j : Nat} {v v' : Value} {l l' : List Int} {tmp : Obj} {w4 : World} (h : AMem w g xv bo r1 q1 L wr) (hj : L[j]? = some (v, l)) (hg : (wr.alloc tmp).grownBy w4 v.ownBlock) (ht : Tab (w4.setCell ⟨bo, j, none⟩ v') w.heap.size bo (L.set j (v', l'))) :
  AMem w g xv bo r1 q1 (L.set j (v', l')) (w4.setCell ⟨bo, j, none⟩ v') := by
 have hown := h.tab.own _ (List.mem_of_getElem? hj)
 have hlow : Below w.heap.size w (w4.setCell ⟨bo, j, none⟩ v') := ((h.low.alloc h.low.size tmp).grown hg (by have := h.low.size; simp; omega) (fun k e => (World.ownsRow.lt hown k e).1)).setCell (p := ⟨bo, j, none⟩) (Nat.le_of_lt h.bo_) _
 refine ⟨⟨?_, hlow.size, ?_⟩, ht, h.map_ hj h.s1 hg, hlow, h.bo_⟩
 ·have hb : Below w.heap.size wr (w4.setCell ⟨bo, j, none⟩ v') := (((Below.refl w.heap.size wr).alloc h.low.size tmp).grown hg (by have := h.low.size; simp; omega) (fun k e => (World.ownsRow.lt hown k e).1)).setCell (p := ⟨bo, j, none⟩) (Nat.le_of_lt h.bo_) _
  exact h.gr.gr.keep (Same.of_below hb)
 ·have := ((h.gr.box.alloc tmp).grown hg (fun e => own_ne_blk hown h.gr.box (by decide) e.symm)).far (p := ⟨bo, j, none⟩) (Nat.ne_of_lt h.bo_) v'
  exact this
end

def AboveIs (g : GraphP) (w : World) (e : Ending) (w' : World) : Prop := ∃ v, e = .returned v ∧ RowsA w.heap.size w'.heap.size w' v ((List.range g.blocks.length).map (fun b => aboveTo g b g.blocks.length)) ∧ Below w.heap.size w w'
theorem above_made (n : Nat) : (madeCells #[.slice none 0 0] n) = (firsts (List.replicate n ((.slice none 0 0, []) : Value × List Int))).toArray := by
 apply Array.ext_getElem?
 intro i
 by_cases hi : i < n
 ·simp [madeCells, hi, Nat.mod_one, firsts]
 ·simp [madeCells, hi, firsts]
set_option maxRecDepth 100000 in
set_option maxHeartbeats 8000000 in
theorem above_any (w : World) (g : GraphP) (xv : GVals) (hs : Small g) (hg : GraphV w w.heap.size xv g) : Calls Tryz.prog 14 #[gval g xv] w (AboveIs g w) := by
 obtain ⟨vn, vb, vs⟩ := xv
 have HG := Lib.hid hg
 obtain ⟨_, hb, _⟩ := hg
 simp only at hb
 obtain ⟨Ab, cb, rfl, _, _, _⟩ := hb
 obtain ⟨l1, l2, l3⟩ := hs.lens
 obtain ⟨i0, hi, hz0, hz1, hz2⟩ := info_parts int_info
 obtain ⟨i1, hi1, hy0, hy1, hy2⟩ := info_parts rows_info
 have hmk := fun W : World => run_make (P := Tryz.prog) W 42 34 i1 (.slice none 0 0) Tryz.underlying42 hi1 hy0 .i64 .i64 (g.blocks.length : Int) (g.blocks.length : Int) (by omega) (Int.le_refl _) (by rw [hy2]; omega) (by omega)
 simp only [hy1, Int.toNat_natCast, Value.cells, Nat.mul_one] at hmk
 unfold gval
 go_enter Tryz.func14, Tryz.ntmps14
 go_upto_region 2 with fail
 obtain ⟨w1, hw1⟩ : ∃ w1 : World, w1 = (w.alloc (.cells (gbox g ⟨vn, .slice Ab g.blocks.length cb, vs⟩) 28)).alloc (.cells (madeCells #[.slice none 0 0] g.blocks.length) 34) := ⟨_, rfl⟩
 have HB1 : Hid (Below w.heap.size w w1) := Lib.hid (by subst hw1; exact ((Below.refl _ _).alloc (Nat.le_refl _) _).alloc (by simp) _)
 have HC1 : Hid (GCtx w1 w.heap.size w.heap.size ⟨vn, .slice Ab g.blocks.length cb, vs⟩ g) := Lib.hid ⟨HG.out.keep (Same.of_below HB1.out), HB1.out.size, by subst hw1; exact (Blk.new w _ _).alloc _⟩
 have HT1 : Hid (Tab w1 w.heap.size (w.heap.size + 1) (List.replicate g.blocks.length (.slice none 0 0, []))) := Lib.hid (by
  refine ⟨?_, fun p hp => ?_, fun i j p q hi => ?_⟩
  ·have := Blk.new (w.alloc (.cells (gbox g ⟨vn, .slice Ab g.blocks.length cb, vs⟩) 28)) 34 (madeCells #[.slice none 0 0] g.blocks.length)
   rw [World.size_alloc, above_made] at this
   rw [hw1, above_made]
   exact this
  ·rw [List.eq_of_mem_replicate hp]
   exact OwnInts.nil _ _
  ·rw [List.eq_of_mem_replicate (List.mem_of_getElem? hi)]
   exact fun _ _ => .inl rfl)
 unfold gbox at hw1
 simp only at hw1
 rw [← hw1]
 obtain ⟨q0, q1c, q2c, q3, q4, q5⟩ := HC1.out.cells
 simp only at q3 q4 q5
 clear hw1 hmk
 go_wp2_with (go_at_call 49; refine (reached_any w1 g ⟨vn, .slice Ab g.blocks.length cb, vs⟩ (-1) hs HC1.out.graph).mono ?_; rintro e w2 ⟨q1, r1, rfl, hs2, hq2, hb2⟩; have HS := Lib.hid hs2; have HQ1 := Lib.hid hq2; have HB12 := Lib.hid hb2; clear hs2 hq2 hb2 q0 q1c q2c q3 q4 q5; obtain ⟨q0, q1c, q2c, q3, q4, q5⟩ := (HC1.out.below HB12.out).cells; simp only at q3 q4 q5)
 have H0 : Hid (AMem w g ⟨vn, .slice Ab g.blocks.length cb, vs⟩ (w.heap.size + 1) r1 q1 (List.replicate g.blocks.length (.slice none 0 0, [])) w2) := Lib.hid ⟨HC1.out.below HB12.out, HT1.out.below HB12.out, HS.out, HB1.out.trans (HB12.out.mono HB1.out.size), by omega⟩
 clear q0 q1c q2c q3 q4 q5 HS HB12 HT1 HC1 HB1
 obtain ⟨bo, hbo⟩ : ∃ bo, bo = w.heap.size + 1 := ⟨_, rfl⟩
 rw [← hbo] at H0 ⊢
 have HBo := Lib.hid hbo
 clear hbo
 go_loopw [17] (fun i wr => ∃ (a : Nat) (L : Tracked), i = .int .i64 a ∧ a ≤ g.blocks.length ∧ Hid (AMem w g ⟨vn, .slice Ab g.blocks.length cb, vs⟩ bo r1 q1 L wr) ∧ Hid (L.map (fun p => p.2) = tbl g a 0)) (fun i _ => g.blocks.length - (intOf i).toNat)
 case atStart => exact ⟨0, _, rfl, Nat.zero_le _, H0, Lib.hid (by rw [tbl_first]; simp)⟩
 case round =>
  obtain ⟨a, L, rfl, ha, HA0, HL0⟩ := hrel
  obtain ⟨wp, rfl⟩ : ∃ wp : World, wp = wr := ⟨_, rfl⟩
  by_cases hal : a < g.blocks.length
  ·obtain ⟨q0, q1c, q2c, q3, q4, q5⟩ := HA0.out.gr.cells
   simp only at q3 q4 q5
   go_wp2_with (go_at_call 49; refine (reached_any wp g ⟨vn, .slice Ab g.blocks.length cb, vs⟩ a hs HA0.out.gr.graph).mono ?_; rintro e w3 ⟨q2, r2, rfl, hs3, hq3, hb3⟩; have HS3 := Lib.hid hs3; have HQ2 := Lib.hid hq3; have HA3 := Lib.hid (HA0.out.below hb3); clear hs3 hq3 hb3 q0 q1c q2c q3 q4 q5; obtain ⟨q0, q1c, q2c, q3, q4, q5⟩ := HA3.out.gr.cells; simp only at q3 q4 q5)
   clear q0 q1c q2c q3 q4 q5
   go_loopw [26] (fun i wr => ∃ (j : Nat) (L : Tracked), i = .int .i64 j ∧ j ≤ g.blocks.length ∧ Hid (AMem w g ⟨vn, .slice Ab g.blocks.length cb, vs⟩ bo r1 q1 L wr) ∧ Hid (SetM wr r2 q2) ∧ Hid (L.map (fun p => p.2) = tbl g a j)) (fun i _ => g.blocks.length - (intOf i).toNat)
   case atStart => exact ⟨0, L, rfl, Nat.zero_le _, HA3, HS3, HL0⟩
   case round =>
    obtain ⟨j, L2, rfl, hj, HA, HS2, HL⟩ := hrel
    clear HA3 HS3
    by_cases hlt : j < g.blocks.length
    ·have HLj' : ∃ v, L2[j]? = some (v, aboveTo g j a) := by
      have := tbl_get (g := g) (a := a) hlt
      rw [← HL.out, List.getElem?_map] at this
      cases hp : L2[j]? with
      | none => rw [hp] at this; cases this
      | some p => rw [hp] at this; injection this with this; exact ⟨p.1, by rw [← this]⟩
     obtain ⟨v, hLj⟩ := HLj'
     have hown := HA.out.tab.own _ (List.mem_of_getElem? hLj)
     have hlen := aboveTo_len g j a
     obtain ⟨Av, cv, ev, _⟩ := OwnInts.ints (l := aboveTo g j a) hown (by unfold lim; omega)
     have ev' : v = .slice Av (aboveTo g j a).length cv := ev
     subst ev'
     have HLj := Lib.hid hLj
     have HOwn : Hid (OwnInts wr w.heap.size (.slice Av (aboveTo g j a).length cv) (aboveTo g j a)) := Lib.hid hown
     have c0 := HA.out.tab.cell hLj
     clear hLj hown ev
     have hl1 := (IMap.look (P := Tryz.prog) HA.out.s1 Tryz.underlying76 Tryz.underlying3 (by kernel_rfl) (j : Int)).1
     have hl2 := (IMap.look (P := Tryz.prog) HS2.out Tryz.underlying76 Tryz.underlying3 (by kernel_rfl) (j : Int)).1
     cases h1 : q1 (j : Int)
     ·have e1 : (setF q1 (j : Int)).getD 0 = 0 := by unfold setF; rw [h1]; rfl
      rw [e1] at hl1
      have HAb : Hid (abv g a j) := Lib.hid (.inl fun h => by rw [(HQ1.out _).2 h] at h1; cases h1)
      clear hl2 h1 e1
      go_wp2_with (at_builtin; refine wpList_append_own_at _ rfl _ _ 34 rfl w.heap.size 3 i0 (.int .i64 0) 1 8 Tryz.underlying34 hi hz0 hz1 hz2 rfl (by decide) _ _ _ rfl (World.ownsRow.alloc (HOwn.out) _) ⟨wr.heap.size, 0, none⟩ 1 1 [.int .i64 a] rfl rfl (cell_one_new _ _ _) (by simp [Value.oneCell']) (by unfold maxLen; omega) (by omega) (by have := HA.out.low.size; simp; omega) ?_; intro v' w4 hown' hgrow _ hblk; obtain ⟨g', cap', rfl⟩ := ownsRow_succ hown'; obtain ⟨ht4, hr4⟩ := HA.out.tab.put HLj.out (OwnInts.snoc hown') hgrow hblk; have HT4 := Lib.hid ht4; have e1 := hr4.cell j; have e2 := hr4.frozen j; have e3 := hr4.lt; have HGw := Lib.hid hgrow; have HCell : w4.cell? ⟨bo, j, none⟩ = some (.slice Av (aboveTo g j a).length cv) := (by rw [e1]; simp [firsts, HLj.out]); clear ht4 hr4 hown' hgrow hblk e1)
      go_roundw
      case rel =>
       refine ⟨j + 1, _, by go_num, by omega, Lib.hid (HA.out.put HLj.out HGw.out HT4.out), Lib.hid (HA.out.map_ HLj.out HS2.out HGw.out), Lib.hid ?_⟩
       rw [List.map_set, HL.out]
       exact tbl_yes hlt HAb.out
      case measure => simp [intOf]; omega
     ·rw [setF_getD q1 _ h1] at hl1
      have H1 := Lib.hid ((HQ1.out _).1 h1)
      clear h1
      by_cases haj : a = j
      ·subst haj
       have HAb : Hid (abv g a a) := Lib.hid (.inr (.inl rfl))
       clear hl2
       go_wp2_with (at_builtin; refine wpList_append_own_at _ rfl _ _ 34 rfl w.heap.size 3 i0 (.int .i64 0) 1 8 Tryz.underlying34 hi hz0 hz1 hz2 rfl (by decide) _ _ _ rfl (World.ownsRow.alloc (HOwn.out) _) ⟨wr.heap.size, 0, none⟩ 1 1 [.int .i64 (a : Int)] rfl rfl (cell_one_new _ _ _) (by simp [Value.oneCell']) (by unfold maxLen; omega) (by omega) (by have := HA.out.low.size; simp; omega) ?_; intro v' w4 hown' hgrow _ hblk; obtain ⟨g', cap', rfl⟩ := ownsRow_succ hown'; obtain ⟨ht4, hr4⟩ := HA.out.tab.put HLj.out (OwnInts.snoc hown') hgrow hblk; have HT4 := Lib.hid ht4; have e1 := hr4.cell a; have e2 := hr4.frozen a; have e3 := hr4.lt; have HGw := Lib.hid hgrow; have HCell : w4.cell? ⟨bo, a, none⟩ = some (.slice Av (aboveTo g a a).length cv) := (by rw [e1]; simp [firsts, HLj.out]); clear ht4 hr4 hown' hgrow hblk e1)
       go_roundw
       case rel =>
        refine ⟨a + 1, _, by go_num, by omega, Lib.hid (HA.out.put HLj.out HGw.out HT4.out), Lib.hid (HA.out.map_ HLj.out HS2.out HGw.out), Lib.hid ?_⟩
        rw [List.map_set, HL.out]
        exact tbl_yes hlt HAb.out
       case measure => simp [intOf]; omega
      ·have hne : ((a : Int) == (j : Int)) = false := by simp; omega
       have HNe := Lib.hid haj
       clear haj
       cases h2 : q2 (j : Int)
       ·have e1 : (setF q2 (j : Int)).getD 0 = 0 := by unfold setF; rw [h2]; rfl
        rw [e1] at hl2
        have HAb : Hid (abv g a j) := Lib.hid (.inr (.inr fun h => by rw [(HQ2.out _).2 h] at h2; cases h2))
        clear h2 e1
        go_wp2_with (at_builtin; refine wpList_append_own_at _ rfl _ _ 34 rfl w.heap.size 3 i0 (.int .i64 0) 1 8 Tryz.underlying34 hi hz0 hz1 hz2 rfl (by decide) _ _ _ rfl (World.ownsRow.alloc (HOwn.out) _) ⟨wr.heap.size, 0, none⟩ 1 1 [.int .i64 a] rfl rfl (cell_one_new _ _ _) (by simp [Value.oneCell']) (by unfold maxLen; omega) (by omega) (by have := HA.out.low.size; simp; omega) ?_; intro v' w4 hown' hgrow _ hblk; obtain ⟨g', cap', rfl⟩ := ownsRow_succ hown'; obtain ⟨ht4, hr4⟩ := HA.out.tab.put HLj.out (OwnInts.snoc hown') hgrow hblk; have HT4 := Lib.hid ht4; have e1 := hr4.cell j; have e2 := hr4.frozen j; have e3 := hr4.lt; have HGw := Lib.hid hgrow; have HCell : w4.cell? ⟨bo, j, none⟩ = some (.slice Av (aboveTo g j a).length cv) := (by rw [e1]; simp [firsts, HLj.out]); clear ht4 hr4 hown' hgrow hblk e1)
        go_roundw
        case rel =>
         refine ⟨j + 1, _, by go_num, by omega, Lib.hid (HA.out.put HLj.out HGw.out HT4.out), Lib.hid (HA.out.map_ HLj.out HS2.out HGw.out), Lib.hid ?_⟩
         rw [List.map_set, HL.out]
         exact tbl_yes hlt HAb.out
        case measure => simp [intOf]; omega
       ·rw [setF_getD q2 _ h2] at hl2
        have HAb : Hid (¬ abv g a j) := Lib.hid (fun h => by
         rcases h with h | h | h
         ·exact h H1.out
         ·exact HNe.out h
         ·exact h ((HQ2.out _).1 h2))
        clear h2
        go_wp2_with fail
        go_roundw
        case rel => exact ⟨j + 1, L2, by go_num, by omega, HA, HS2, Lib.hid (by rw [← tbl_no HAb.out]; exact HL.out)⟩
        case measure => simp [intOf]; omega
    ·go_wp2_with fail
     go_roundw
     case rel =>
      have e : j = g.blocks.length := by omega
      subst e
      exact ⟨a + 1, L2, by go_num, by omega, HA, Lib.hid (by rw [HL.out, tbl_turn])⟩
     case measure => simp [intOf]; omega
  ·go_wp2_with fail
   go_ret
   have e : a = g.blocks.length := by omega
   subst e
   have hLl : L.length = g.blocks.length := by
    have := congrArg List.length HL0.out
    simpa [tbl] using this
   refine ⟨_, rfl, ?_, HA0.out.low⟩
   have h1 := HA0.out.tab.rowsA (fun p hp => by
    obtain ⟨i, hi⟩ := List.mem_iff_getElem?.1 hp
    have : (L.map (fun p => p.2))[i]? = some p.2 := by rw [List.getElem?_map, hi]; rfl
    rw [HL0.out] at this
    have hil : i < g.blocks.length := by rw [← hLl]; exact (List.getElem?_eq_some_iff.1 hi).1
    simp [tbl, hil] at this
    rw [← this]
    have := aboveTo_len g i g.blocks.length
    unfold lim; omega) (by unfold lim; omega) (Nat.le_of_lt HA0.out.bo_)
   rw [HL0.out, hLl] at h1
   exact h1
end Go.Proofs.YtkmfdiboekoioaaGreat
