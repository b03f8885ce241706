/- The walk of alloc.Do. Conditions: a graph that is small. -/
import Derived.Test.YtkmfdiboekoioaaGreatCSound
set_option linter.unusedSimpArgs false
set_option linter.unusedVariables false
namespace Go.Proofs.YtkmfdiboekoioaaGreat
open Go.RowKit

theorem badF {lo : Int} {N : Nat} {l : List Int} (h : bad lo N l = false) : ∀ x ∈ l, lo ≤ x ∧ x < (N : Int) := fun x hx => Classical.byContradiction fun hn => by
 have := (bad_iff lo N l).2 ⟨x, hx, hn⟩
 rw [h] at this; cases this
theorem sound_nodes {g : GraphP} (h : soundB g = true) (b : Nat) : ∀ x ∈ ordNodes g b, 0 ≤ x ∧ x < (g.nodes.length : Int) := by
 unfold ordNodes
 cases hb : g.blocks[b]? with
 | none => simp
 | some y =>
  unfold soundB at h
  simp only [Bool.and_eq_true, List.all_eq_true] at h
  have := h.1.2 y (List.mem_of_getElem? hb)
  unfold blockOk at this
  simp only [Bool.and_eq_true, Bool.not_eq_true'] at this
  exact badF this.1.1.1.1
theorem ordB_in {g : GraphP} (h : soundB g = true) (ab : Nat → List Int) : ∀ (f : Nat) (s : OSt) (b : Nat), (∀ x ∈ s.out, 0 ≤ x ∧ x < (g.nodes.length : Int)) → ∀ x ∈ (ordB g ab f s b).out, 0 ≤ x ∧ x < (g.nodes.length : Int)
 | 0, s, b, hs => hs
 | f + 1, s, b, hs => by
  cases hsb : s.seen (b : Int)
  ·rw [ordB_new hsb]
   have key : ∀ k, k ≤ (ab b).length → ∀ x ∈ (ordTo g ab f b s k).out, 0 ≤ x ∧ x < (g.nodes.length : Int) := fun k => by
    induction k with
    | zero => intro _; simpa [ordTo] using hs
    | succ k ih =>
     intro hk
     obtain ⟨a, ha⟩ := getE (l := ab b) (k := k) (by omega)
     rw [ordTo_step g ab f b s k a ha]
     unfold ordStep
     split
     ·exact ordB_in h ab f _ _ (ih (by omega))
     ·exact ih (by omega)
   intro x hx
   rcases List.mem_append.1 hx with hx | hx
   ·exact key _ (Nat.le_refl _) x hx
   ·exact sound_nodes h b x hx
  ·rw [ordB_seen hsb]; exact hs
theorem orderOf_in {g : GraphP} (h : soundB g = true) : ∀ x ∈ orderOf g, 0 ≤ x ∧ x < (g.nodes.length : Int) := by
 have key : ∀ k, ∀ x ∈ (ordAll g k).out, 0 ≤ x ∧ x < (g.nodes.length : Int) := fun k => by
  induction k with
  | zero => simp [ordAll]
  | succ k ih => rw [ordAll_step]; exact ordB_in h _ _ _ _ ih
 intro x hx
 rcases List.mem_append.1 hx with hx | hx
 ·exact key _ x hx
 ·unfold natsTo at hx
  obtain ⟨i, hi, rfl⟩ := List.mem_map.1 hx
  have := List.mem_range.1 hi
  omega
theorem orderOf_len {g : GraphP} (hs : Small g) : (orderOf g).length ≤ 25005000 := by
 unfold orderOf
 rw [List.length_append, natsTo_len]
 have h1 := (ordAll_ok hs g.blocks.length (Nat.le_refl _)).len
 have h2 := card_le g.blocks.length (ordAll g g.blocks.length).seen
 obtain ⟨l1, l2, l3⟩ := hs.lens
 have : 5000 * card g.blocks.length (ordAll g g.blocks.length).seen ≤ 5000 * 5000 := Nat.mul_le_mul_left _ (by omega)
 omega

/-- The registers of those that a node meets. -/
def takenOf (R : Meets) (rs : List Int) (n : Nat) : ISet := fun r => (List.range rs.length).any (fun k => R (n : Int) (k : Int) && rs.getD k 0 == r)
def FreeIs (t : ISet) (r : Int) : Prop := 0 ≤ r ∧ t r = false ∧ ∀ q, 0 ≤ q → q < r → t q = true
theorem FreeIs.one {t : ISet} {r r' : Int} (h : FreeIs t r) (h' : FreeIs t r') : r = r' := by
 rcases Int.lt_trichotomy r r' with q | q | q
 ·have := h'.2.2 r h.1 q; rw [h.2.1] at this; cases this
 ·exact q
 ·have := h.2.2 r' h'.1 q; rw [h'.2.1] at this; cases this
/-- A node is given the first register that is free, if it has none. -/
def GStep (R : Meets) (rs : List Int) (n : Nat) (rs' : List Int) : Prop :=
 (0 ≤ rs.getD n 0 ∧ rs' = rs) ∨ (rs.getD n 0 < 0 ∧ ∃ r, FreeIs (takenOf R rs n) r ∧ rs' = rs.set n r)
inductive GTo (R : Meets) (N : Nat) : List Int → List Int → Prop
 | nil : GTo R N [] (List.replicate N (-1))
 | snoc (l : List Int) (n : Nat) (rs rs' : List Int) : GTo R N l rs → GStep R rs n rs' → GTo R N (l ++ [(n : Int)]) rs'
structure GRk (N j : Nat) (rs : List Int) : Prop where
 len : rs.length = N
 low : ∀ r ∈ rs, -1 ≤ r ∧ r < (j : Int)
theorem getD_mem {rs : List Int} {n : Nat} (h : n < rs.length) : rs.getD n 0 ∈ rs := by
 rw [List.getD_eq_getElem?_getD, List.getElem?_eq_getElem h]
 exact List.getElem_mem h
theorem taken_low {N j : Nat} {R : Meets} {rs : List Int} {n : Nat} (h : GRk N j rs) {r : Int} (ht : takenOf R rs n r = true) : r < (j : Int) := by
 unfold takenOf at ht
 obtain ⟨k, hk, h2⟩ := List.any_eq_true.1 ht
 simp only [Bool.and_eq_true, beq_iff_eq] at h2
 rw [← h2.2]
 exact (h.low _ (getD_mem (List.mem_range.1 hk))).2
theorem GStep.ok {N j : Nat} {R : Meets} {rs rs' : List Int} {n : Nat} (h : GRk N j rs) (hg : GStep R rs n rs') : GRk N (j + 1) rs' := by
 rcases hg with ⟨_, rfl⟩ | ⟨_, r, hf, rfl⟩
 ·exact ⟨h.len, fun r hr => by have := h.low r hr; omega⟩
 ·refine ⟨by simpa using h.len, fun q hq => ?_⟩
  rcases List.mem_or_eq_of_mem_set hq with hq | rfl
  ·have := h.low q hq; omega
  ·refine ⟨by have := hf.1; omega, ?_⟩
   rcases Int.lt_or_le q (j + 1) with h1 | h1
   ·omega
   ·have := taken_low h (hf.2.2 (q - 1) (by omega) (by omega))
    omega
theorem GTo.ok {N : Nat} {R : Meets} {l rs : List Int} (h : GTo R N l rs) : GRk N l.length rs := by
 induction h with
 | nil => exact ⟨by simp, fun r hr => by rw [List.eq_of_mem_replicate hr]; simp⟩
 | snoc l n rs rs' _ hs ih => rw [List.length_append]; exact hs.ok ih

def doCells (rs : List Int) : Array Value := (rs.map (Value.int .i64)).toArray
/-- The memory of alloc.Do in its great loop. -/
structure DMem (w : World) (bo br base : Nat) (ro : List Nat) (R : Meets) (ov : Value) (ord : List Int) (wr : World) (rs : List Int) : Prop where
 rows : MRow wr bo ro R
 regs : Blk wr br 3 (doCells rs)
 ord_ : OwnInts wr base ov ord
 low : Below w.heap.size w wr
 br_ : w.heap.size ≤ br
 brb : br < base
section
variable {w : World} {bo br base : Nat} {ro : List Nat} {R : Meets} {ov : Value} {ord : List Int} {wr w2 : World} {rs : List Int}
theorem DMem.below (h : DMem w bo br base ro R ov ord wr rs) (hb : Below wr.heap.size wr w2) : DMem w bo br base ro R ov ord w2 rs :=
 ⟨h.rows.later hb, h.regs.below hb h.regs.lt, h.ord_.below hb, h.low.trans (hb.mono h.low.size), h.br_, h.brb⟩
theorem DMem.cell (h : DMem w bo br base ro R ov ord wr rs) {k : Nat} (hk : k < rs.length) : wr.cell? ⟨br, k, none⟩ = some (.int .i64 (rs.getD k 0)) := by
 rw [h.regs.cell]
 simp [doCells, hk, List.getD_eq_getElem?_getD]
/-- Another map (one that no row is of) is written. -/
theorem DMem.other (h : DMem w bo br base ro R ov ord wr rs) {m : Nat} {f : FMap} (hm : IMap wr m f) (hf : m ∉ ro) (hw : w.heap.size ≤ m) (hg : wr.grownBy w2 (some m)) : DMem w bo br base ro R ov ord w2 rs :=
 ⟨h.rows.grown hg (fun e => blk_ne_map h.rows.row hm (by rw [e])) hf, h.regs.grown hg (blk_ne_map h.regs hm), World.ownsRow.kept h.ord_ hg (own_ne_map h.ord_ hm), h.low.grown hg h.low.size (fun k e => by injection e with e; omega), h.br_, h.brb⟩
/-- A register is written. -/
theorem DMem.put (h : DMem w bo br base ro R ov ord wr rs) (k : Nat) (r : Int) : DMem w bo br base ro R ov ord (wr.setCell ⟨br, k, none⟩ (.int .i64 r)) (rs.set k r) := by
 have hg : wr.grownBy (wr.setCell ⟨br, k, none⟩ (.int .i64 r)) (some br) := ⟨rfl, rfl, rfl, by simp [World.setCell], fun i _ hi => Below.heap_setCell _ _ _ i (fun e => hi (by rw [e]))⟩
 refine ⟨⟨h.rows.row.grown hg (fun e => ?_), h.rows.one, fun j r' hj => IMap.setCell (h.rows.maps j r' hj) _ _⟩, ?_, World.ownsRow.kept h.ord_ hg ?_, h.low.setCell (p := ⟨br, k, none⟩) h.br_ _, h.br_, h.brb⟩
 ·injection e with e
  have h1 := h.rows.row
  have h2 := h.regs
  unfold Blk at h1 h2
  rw [e, h2] at h1
  injection h1 with h1
  injection h1 with _ h1 _
  exact absurd h1 (by decide)
 ·have := h.regs.set_ k (.int .i64 r)
  have e : (doCells rs).setIfInBounds k (.int .i64 r) = doCells (rs.set k r) := by simp [doCells, List.map_set]
  rw [e] at this
  exact this
 ·cases hv : ov.ownBlock with
  | none => exact .inl rfl
  | some j => exact .inr (fun e => by injection e with e; have := (World.ownsRow.lt h.ord_ j hv).1; have := h.brb; omega)
end

def DoIs (g : GraphP) (w : World) (e : Ending) (w' : World) : Prop :=
 (soundB g = false ∧ e = .returned (.tuple #[.slice none 0 0, .int .i64 8]) ∧ Below w.heap.size w w') ∨
 (soundB g = true ∧ ∃ (br : Nat) (rs : List Int) (I O : Sets), e = .returned (.tuple #[.slice (some ⟨br, 0, none⟩) g.nodes.length g.nodes.length, .int .i64 0]) ∧ LiveIs g I O ∧ GTo (meetAll g I O) g.nodes.length (orderOf g) rs ∧ Blk w' br 3 (doCells rs) ∧ Below w.heap.size w w')
/-- While the registers of those that a node meets are gathered. -/
structure DoTMem (w : World) (bo br base : Nat) (ro : List Nat) (R : Meets) (ov : Value) (ord : List Int) (rs : List Int) (nn it rn mt : Nat) (t : ISet) (left : Int → Bool) (c : Nat) (wr : World) : Prop where
 it_ : Iter wr it rn (setF (R (nn : Int))) left c
 tk : SetM wr mt t
 mem : DMem w bo br base ro R ov ord wr rs
 is : ∀ r, t r = true ↔ ∃ k : Nat, k < rs.length ∧ R (nn : Int) (k : Int) = true ∧ left (k : Int) = false ∧ rs.getD k 0 = r
theorem DMem.far {w : World} {bo br base : Nat} {ro : List Nat} {R : Meets} {ov : Value} {ord : List Int} {wr w2 : World} {rs : List Int} (h : DMem w bo br base ro R ov ord wr rs) {m : Nat} (h1 : m ≠ bo) (h2 : m ∉ ro) (h3 : m ≠ br) (h4 : ov.ownBlock ≠ some m) (hw : w.heap.size ≤ m) (hg : wr.grownBy w2 (some m)) : DMem w bo br base ro R ov ord w2 rs :=
 ⟨h.rows.grown hg h1 h2, h.regs.grown hg (fun e => h3 (by injection e with e; exact e.symm)), World.ownsRow.kept h.ord_ hg (.inr h4), h.low.grown hg h.low.size (fun k e => by injection e with e; omega), h.br_, h.brb⟩
theorem DoTMem.taken {w : World} {bo br base : Nat} {ro : List Nat} {R : Meets} {ov : Value} {ord : List Int} {rs : List Int} {nn it rn mt : Nat} {t : ISet} {left : Int → Bool} {c : Nat} {wr : World} (h : DoTMem w bo br base ro R ov ord rs nn it rn mt t left c wr) (hd : ∀ x, left x = false) : t = takenOf R rs nn := by
 funext r
 rw [Bool.eq_iff_iff, h.is r]
 unfold takenOf
 simp only [List.any_eq_true, List.mem_range, Bool.and_eq_true, beq_iff_eq]
 constructor
 ·rintro ⟨k, h1, h2, _, h4⟩; exact ⟨k, h1, h2, h4⟩
 ·rintro ⟨k, h1, h2, h4⟩; exact ⟨k, h1, h2, hd _, h4⟩
theorem DoTMem.step {w : World} {bo br base : Nat} {ro : List Nat} {R : Meets} {ov : Value} {ord : List Int} {rs : List Int} {nn it rn mt : Nat} {t : ISet} {left : Int → Bool} {c c' k : Nat} {wr w6 w7 : World} (h : DoTMem w bo br base ro R ov ord rs nn it rn mt t left c wr) (hk : k < rs.length) (hR : R (nn : Int) (k : Int) = true)
  (h1 : it ≠ bo) (h2 : it ∉ ro) (h3 : br < it) (hw : w.heap.size ≤ it) (hm : mt ∉ ro) (hmw : w.heap.size ≤ mt) (hmr : mt ≠ rn)
  (hit : Iter w6 it rn (setF (R (nn : Int))) (fun z => left z && !(z == (k : Int))) c') (hg6 : wr.grownBy w6 (some it)) (hs : SetM w7 mt (fun z => t z || z == rs.getD k 0)) (hg7 : w6.grownBy w7 (some mt)) (hme : mt ≠ it) :
  DoTMem w bo br base ro R ov ord rs nn it rn mt (fun z => t z || z == rs.getD k 0) (fun z => left z && !(z == (k : Int))) c' w7 := by
 have htk6 : SetM w6 mt t := IMap.grown h.tk hg6 (fun e => hme (by injection e))
 have hm6 : DMem w bo br base ro R ov ord w6 rs := h.mem.far h1 h2 (Nat.ne_of_gt h3) (own_ne_iter h.mem.ord_ h.it_) hw hg6
 refine ⟨hit.grown hg7 (fun e => hmr (by injection e with e; exact e.symm)) (fun e => hme (by injection e with e; exact e.symm)), hs, hm6.other htk6 hm hmw hg7, fun r => ?_⟩
 simp only [Bool.or_eq_true, beq_iff_eq, h.is r]
 constructor
 ·rintro (⟨q, a, b, c, d⟩ | rfl)
  ·exact ⟨q, a, b, by rw [c]; rfl, d⟩
  ·exact ⟨k, hk, hR, by simp, rfl⟩
 ·rintro ⟨q, a, b, c, d⟩
  by_cases e : q = k
  ·subst e; exact .inr d.symm
  ·have e' : ((q : Int) == (k : Int)) = false := by simp; omega
   rw [e'] at c
   exact .inl ⟨q, a, b, by simpa using c, d⟩
theorem regs_made (n : Nat) : madeCells #[.int .i64 0] n = doCells (List.replicate n 0) := by
 apply Array.ext_getElem?
 intro i
 by_cases hi : i < n
 ·simp [madeCells, hi, Nat.mod_one, doCells]
 ·simp [madeCells, hi, doCells]
def firstRegs (N k : Nat) : List Int := List.replicate k (-1) ++ List.replicate (N - k) 0
theorem firstRegs_len {N k : Nat} (h : k ≤ N) : (firstRegs N k).length = N := by simp [firstRegs]; omega
theorem firstRegs_set {N k : Nat} (h : k < N) : (firstRegs N k).set k (-1) = firstRegs N (k + 1) := by
 unfold firstRegs
 obtain ⟨m, hm⟩ : ∃ m, N - k = m + 1 := ⟨N - k - 1, by omega⟩
 rw [hm, List.replicate_succ, show N - (k + 1) = m from by omega, List.replicate_succ']
 simp
set_option maxRecDepth 100000 in
set_option maxHeartbeats 16000000 in
theorem do_any (w : World) (g : GraphP) (xv : GVals) (hs : Small g) (hg : GraphV w w.heap.size xv g) : Calls Tryz.prog 9 #[gval g xv] w (DoIs g w) := by
 obtain ⟨vn, vb, vs⟩ := xv
 have HG := Lib.hid hg
 obtain ⟨hn, _, _⟩ := hg
 simp only at hn
 obtain ⟨An, cn, rfl, _, _, _⟩ := hn
 obtain ⟨l1, l2, l3⟩ := hs.lens
 have hmm := @run_makeMap Tryz.prog
 obtain ⟨i0, hi, hz0, hz1, hz2⟩ := info_parts int_info
 have hmk := fun W : World => run_make (P := Tryz.prog) W 34 3 i0 (.int .i64 0) Tryz.underlying34 hi hz0 .i64 .i64 (g.nodes.length : Int) (g.nodes.length : Int) (by omega) (Int.le_refl _) (by rw [hz2]; omega) (by omega)
 simp only [hz1, Int.toNat_natCast, Value.cells, Nat.mul_one] at hmk
 have HC0 : Hid (GCtx (w.alloc (.cells (gbox g ⟨.slice An g.nodes.length cn, vb, vs⟩) 28)) w.heap.size w.heap.size ⟨.slice An g.nodes.length cn, vb, vs⟩ g) := Lib.hid ⟨HG.out.keep (Same.of_below ((Below.refl _ _).alloc (Nat.le_refl _) _)), by simp, Blk.new w _ _⟩
 have HB0 : Hid (Below w.heap.size w (w.alloc (.cells (gbox g ⟨.slice An g.nodes.length cn, vb, vs⟩) 28))) := Lib.hid ((Below.refl _ _).alloc (Nat.le_refl _) _)
 unfold gval
 cases hsd : soundB g
 ·have HSd := Lib.hid hsd
  go_enter Tryz.func9, Tryz.ntmps9
  go_wp2_with (go_at_call 30; refine (sound_any _ g ⟨.slice An g.nodes.length cn, vb, vs⟩ hs HC0.out.graph).mono ?_; rintro e w1 ⟨rfl, hb1⟩; have HB1 := Lib.hid hb1; clear hb1)
  go_ret2
  exact .inl ⟨HSd.out, rfl, HB0.out.trans (HB1.out.mono HB0.out.size)⟩
 ·have HSd := Lib.hid hsd
  go_enter Tryz.func9, Tryz.ntmps9
  go_wp2_with (first | (go_at_call 30; refine (sound_any _ g ⟨.slice An g.nodes.length cn, vb, vs⟩ hs HC0.out.graph).mono ?_; rintro e w1 ⟨rfl, hb1⟩; have HC1 := Lib.hid (HC0.out.below hb1); have HB1 := Lib.hid (HB0.out.trans (hb1.mono HB0.out.size)); clear hb1; obtain ⟨q0, q1, q2, q3, q4, q5⟩ := HC1.out.cells; simp only at q3 q4 q5) | (go_at_call 31; refine (meets_any w1 ⟨.slice An g.nodes.length cn, vb, vs⟩ g HC1.out.graph hs).mono ?_; rintro e w2 ⟨bo, ro, I, O, rfl, hrl, hL, hr2, hb2⟩; have HRl := Lib.hid hrl; have HL := Lib.hid hL; have HR2 := Lib.hid hr2; have HC2 := Lib.hid (HC1.out.below hb2); have HB2 := Lib.hid (HB1.out.trans (hb2.mono HB1.out.size)); clear hrl hL hr2 hb2 q0 q1 q2 q3 q4 q5; obtain ⟨q0, q1, q2, q3, q4, q5⟩ := HC2.out.cells; simp only at q3 q4 q5))
  clear q0 q1 q2 q3 q4 q5
  obtain ⟨R, hR⟩ : ∃ R : Meets, R = meetAll g I O := ⟨_, rfl⟩
  have HRd := Lib.hid hR
  rw [← hR] at HR2
  have HIn : Hid (MeetIn g.nodes.length R) := Lib.hid (by rw [hR]; exact meetIn_all HL.out.boundI _)
  clear hR
  have HD2 : Hid (DMem w bo w2.heap.size (w2.heap.size + 1) ro R (.slice none 0 0) [] (w2.alloc (.cells (madeCells #[.int .i64 0] g.nodes.length) 3)) (firstRegs g.nodes.length 0)) := Lib.hid (by
   refine ⟨HR2.out.later ((Below.refl _ _).alloc (Nat.le_refl _) _), ?_, OwnInts.nil _ _, HB2.out.alloc HB2.out.size _, HB2.out.size, by omega⟩
   have := Blk.new w2 3 (madeCells #[.int .i64 0] g.nodes.length)
   rw [regs_made] at this
   simpa [firstRegs, regs_made] using this)
  have HC3 : Hid (GCtx (w2.alloc (.cells (madeCells #[.int .i64 0] g.nodes.length) 3)) w.heap.size w.heap.size ⟨.slice An g.nodes.length cn, vb, vs⟩ g) := Lib.hid (HC2.out.alloc _)
  have HZb : Hid (w.heap.size < w2.heap.size) := Lib.hid HC2.out.lt
  obtain ⟨br, hbr⟩ : ∃ br, br = w2.heap.size := ⟨_, rfl⟩
  rw [← hbr] at HD2 HZb ⊢
  go_loopw [22] (fun i wr => ∃ k : Nat, i = .int .i64 k ∧ k ≤ g.nodes.length ∧ Hid (DMem w bo br (br + 1) ro R (.slice none 0 0) [] wr (firstRegs g.nodes.length k)) ∧ Hid (GCtx wr w.heap.size w.heap.size ⟨.slice An g.nodes.length cn, vb, vs⟩ g)) (fun i _ => g.nodes.length - (intOf i).toNat)
  case atStart => exact ⟨0, rfl, Nat.zero_le _, HD2, HC3⟩
  case round =>
   obtain ⟨k, rfl, hk, HD, HC⟩ := hrel
   clear hmk hbr
   by_cases hlt : k < g.nodes.length
   ·have f0 := HD.out.cell (k := k) (by rw [firstRegs_len (by omega)]; exact hlt)
    have f1 := HD.out.regs.frozen k
    go_wp2_with fail
    go_roundw
    case rel =>
     refine ⟨k + 1, by go_num, by omega, Lib.hid ?_, Lib.hid (HC.out.setCell (p := ⟨br, k, none⟩) (Nat.le_of_lt HZb.out) (Nat.ne_of_lt HZb.out) _)⟩
     have := HD.out.put k (-1)
     rw [firstRegs_set hlt] at this
     exact this
    case measure => simp [intOf]; omega
   ·have e : k = g.nodes.length := by omega
    subst e
    obtain ⟨q0, q1, q2, q3, q4, q5⟩ := HC.out.cells
    simp only at q3 q4 q5
    go_wp2_with (go_at_call 32; refine (order_any wr g ⟨.slice An g.nodes.length cn, vb, vs⟩ hs HC.out.graph).mono ?_; rintro e w4 ⟨vo, rfl, ho4, hb4⟩; have HO4 := Lib.hid ho4; have HB4 := Lib.hid hb4; obtain ⟨Ao, co, eo, _⟩ := OwnInts.ints (l := orderOf g) ho4 (by have := orderOf_len hs; unfold lim; omega); (have eo' : vo = .slice Ao (orderOf g).length co := eo); subst eo'; clear ho4 hb4 eo q0 q1 q2 q3 q4 q5)
    obtain ⟨base, hbase⟩ : ∃ base, base = wr.heap.size := ⟨_, rfl⟩
    have HBs := Lib.hid hbase
    have HD4 : Hid (DMem w bo br base ro R (.slice Ao (orderOf g).length co) (orderOf g) w4 (firstRegs g.nodes.length g.nodes.length)) := Lib.hid (by
     have := HD.out.below HB4.out
     exact ⟨this.rows, this.regs, by rw [hbase]; exact HO4.out, this.low, this.br_, by rw [hbase]; exact HD.out.regs.lt⟩)
    have hol := orderOf_len hs
    have HIo := Lib.hid (orderOf_in HSd.out)
    clear HD HC HO4 HB4 hbase
    go_loopw [32] (fun i wr => ∃ (j : Nat) (rs : List Int), i = .int .i64 j ∧ j ≤ (orderOf g).length ∧ Hid (DMem w bo br base ro R (.slice Ao (orderOf g).length co) (orderOf g) wr rs) ∧ Hid (GTo R g.nodes.length ((orderOf g).take j) rs)) (fun i _ => (orderOf g).length - (intOf i).toNat)
    case atStart => exact ⟨0, _, rfl, Nat.zero_le _, HD4, Lib.hid (by
      have : firstRegs g.nodes.length g.nodes.length = List.replicate g.nodes.length (-1) := by simp [firstRegs]
      rw [this]; exact GTo.nil)⟩
    case round =>
     obtain ⟨j, rs, rfl, hj, HM, HG2⟩ := hrel
     obtain ⟨wp, rfl⟩ : ∃ wp : World, wp = wr := ⟨_, rfl⟩
     clear HD4
     have HGk := Lib.hid HG2.out.ok
     have HRs : Hid (rs.length = g.nodes.length) := Lib.hid HGk.out.len
     by_cases hlt2 : j < (orderOf g).length
     ·obtain ⟨bo2, off2, rfl, _, hp2⟩ := (OwnInts.ints (l := orderOf g) HM.out.ord_ (by unfold lim; omega)).cells hlt2
      obtain ⟨x, hx⟩ := getE hlt2
      have d0 := hp2 j x hx
      obtain ⟨hx0, hx1⟩ := HIo.out x (List.mem_of_getElem? hx)
      obtain ⟨nn, rfl⟩ := Int.eq_ofNat_of_zero_le hx0
      have hnn : nn < g.nodes.length := by omega
      have hnr : nn < rs.length := by have := HRs.out; omega
      have d1 := HM.out.cell hnr
      have HX := Lib.hid hx
      have HTk : Hid ((orderOf g).take (j + 1) = (orderOf g).take j ++ [(nn : Int)]) := Lib.hid (by rw [List.take_add_one, hx]; rfl)
      obtain ⟨r0, hr0⟩ : ∃ r0, r0 = rs.getD nn 0 := ⟨_, rfl⟩
      rw [← hr0] at d1
      have HR0 := Lib.hid hr0
      clear hp2 hx hx0 hx1 hr0
      by_cases hge : 0 ≤ r0
      ·have HGe := Lib.hid hge
       go_wp2_with fail
       go_roundw
       case rel => exact ⟨j + 1, rs, by go_num, by omega, HM, Lib.hid (by rw [HTk.out]; exact GTo.snoc _ _ _ _ HG2.out (.inl ⟨by rw [← HR0.out]; exact HGe.out, rfl⟩))⟩
       case measure => simp [intOf]; omega
      ·obtain ⟨rn, hrn⟩ := getE (l := ro) (k := nn) (by have := HRl.out; omega)
       have HRn := Lib.hid hrn
       have d2 := HM.out.rows.cellAt hrn
       have d3 : (wp.alloc (.map #[] 0)).cell? ⟨bo, nn, none⟩ = some (.map (some rn)) := (World.grownBy_alloc wp _ none).cell d2 (by simp)
       have HMa := Lib.hid (HM.out.below ((Below.refl wp.heap.size wp).alloc (Nat.le_refl _) (.map #[] 0)))
       obtain ⟨cnt, w5, hrun, hit, hg5, hz5⟩ := IMap.range (P := Tryz.prog) (HMa.out.rows.maps nn rn hrn) Tryz.underlying76
       have hb5 : Below wp.heap.size wp w5 := ((Below.refl _ _).alloc (Nat.le_refl _) _).grown hg5 (by simp) (fun k e => by cases e)
       have hmk : SetM w5 wp.heap.size ISet.empty := by
        unfold SetM
        rw [setF_empty]
        exact IMap.grown (IMap.made wp) hg5 (by simp)
       rw [World.size_alloc] at hrun hit hz5
       have H5 : Hid (DoTMem w bo br base ro R (.slice (some ⟨bo2, off2, none⟩) (orderOf g).length co) (orderOf g) rs nn (wp.heap.size + 1) rn wp.heap.size ISet.empty (fun x => (setF (R (nn : Int)) x).isSome) cnt w5) := Lib.hid ⟨hit, hmk, HM.out.below hb5, fun r => ⟨fun h => (by cases h), fun ⟨k, _, h1, h2, _⟩ => by rw [setF_some, h1] at h2; cases h2⟩⟩
       have HZ : Hid (wp.heap.size ∉ ro ∧ w.heap.size ≤ wp.heap.size ∧ br < wp.heap.size ∧ wp.heap.size ≠ rn ∧ wp.heap.size + 1 ≠ bo ∧ wp.heap.size + 1 ∉ ro) := Lib.hid (by
        have hnm : ∀ r ∈ ro, r < wp.heap.size := fun r hr => by obtain ⟨p, hp⟩ := HM.out.rows.isMap hr; exact hp.lt
        refine ⟨fun h => Nat.lt_irrefl _ (hnm _ h), HM.out.low.size, HM.out.regs.lt, Nat.ne_of_gt (hnm _ (List.mem_of_getElem? hrn)), ?_, fun h => by have := hnm _ h; omega⟩
        have := HM.out.rows.row.lt; omega)
       clear hit hg5 hz5 hb5 hmk hrn d2
       go_wp2_with fail
       clear hrun d0 d1 d3
       go_loopg [10] cnt (fun c _ wr => ∃ t left, Hid (DoTMem w bo br base ro R (.slice (some ⟨bo2, off2, none⟩) (orderOf g).length co) (orderOf g) rs nn (wp.heap.size + 1) rn wp.heap.size t left c wr))
       case atStart => exact ⟨_, _, H5⟩
       case round =>
        obtain ⟨t, left, HT⟩ := hrel
        clear H5 HMa
        rcases Iter.next (P := Tryz.prog) HT.out.it_ 0 with ⟨hdone, hrun⟩ | ⟨x, y, w6, cnt', hlx, hmx, hrun, hit6, hlt6, hg6, hs6, hent⟩
        ·have HTk2 := Lib.hid (HT.out.taken hdone)
         have HMem := Lib.hid HT.out.mem; have HSt := Lib.hid HT.out.tk
         have b0 := HT.out.mem.cell hnr
         have b1 := HT.out.mem.regs.frozen nn
         have HLen : Hid (((orderOf g).take j).length = j) := Lib.hid (by rw [List.length_take]; omega)
         clear hdone
         go_wp2_with fail
         clear hrun b0 b1
         go_loopg [59] (j + 1) (fun c _ wr => ∃ r : Int, 0 ≤ r ∧ r ≤ (j : Int) ∧ c + r.toNat = j + 1 ∧ Hid (DMem w bo br base ro R (.slice (some ⟨bo2, off2, none⟩) (orderOf g).length co) (orderOf g) wr (rs.set nn r)) ∧ Hid (SetM wr wp.heap.size t) ∧ Hid (∀ q, 0 ≤ q → q < r → t q = true))
         case atStart => exact ⟨0, by omega, by omega, by simp, Lib.hid (HMem.out.put nn 0), Lib.hid (IMap.setCell HSt.out _ _), Lib.hid (fun q h1 h2 => by omega)⟩
         case round =>
          obtain ⟨r, hr0, hrj, hcr, HM7, HS7, HF7⟩ := hrel
          have hl := (IMap.look (P := Tryz.prog) HS7.out Tryz.underlying76 Tryz.underlying3 (by kernel_rfl) r).1
          have b0 : wr.cell? ⟨br, nn, none⟩ = some (.int .i64 r) := by
           have := HM7.out.cell (k := nn) (by simpa using hnr)
           simpa [hnr] using this
          have b1 := HM7.out.regs.frozen nn
          have HCr := Lib.hid hcr
          clear hcr
          cases htr : t r
          ·have hgd : (setF t r).getD 0 = 0 := by unfold setF; rw [htr]; rfl
           rw [hgd] at hl
           have HFree : Hid (FreeIs (takenOf R rs nn) r) := Lib.hid ⟨hr0, by rw [← HTk2.out]; exact htr, fun q h1 h2 => by rw [← HTk2.out]; exact HF7.out q h1 h2⟩
           clear htr hgd
           go_wp2_with fail
           go_roundw
           case rel => exact ⟨j + 1, rs.set nn r, by go_num, by omega, HM7, Lib.hid (by rw [HTk.out]; exact GTo.snoc _ _ _ _ HG2.out (.inr ⟨by rw [← HR0.out]; omega, r, HFree.out, rfl⟩))⟩
           case measure => simp [intOf]; omega
          ·rw [setF_getD t r htr] at hl
           have hlt9 : r < (j : Int) := by
            have := taken_low (R := R) (n := nn) HGk.out (r := r) (by rw [← HTk2.out]; exact htr)
            rw [HLen.out] at this; exact this
           have HTr := Lib.hid htr
           clear htr
           go_wp2_with fail
           go_roundg (j - r.toNat)
           case measure => have := HCr.out; omega
           case rel =>
            refine ⟨r + 1, by omega, by omega, by omega, Lib.hid ?_, Lib.hid (IMap.setCell HS7.out _ _), Lib.hid (fun q h1 h2 => ?_)⟩
            ·have := HM7.out.put nn (r + 1)
             rw [List.set_set] at this
             exact this
            ·by_cases e : q = r
             ·rw [e]; exact HTr.out
             ·exact HF7.out q h1 (by omega)
        ·obtain ⟨hpx, rfl⟩ := setF_val hmx
         obtain ⟨_, hx0, hx1⟩ := HIn.out _ _ hpx
         obtain ⟨k, rfl⟩ := Int.eq_ofNat_of_zero_le hx0
         have hkN : k < g.nodes.length := by omega
         have hkr : k < rs.length := by have := HRs.out; omega
         have hm6 := HT.out.mem.far HZ.out.2.2.2.2.1 HZ.out.2.2.2.2.2 (by have := HZ.out.2.2.1; omega) (own_ne_iter HT.out.mem.ord_ HT.out.it_) (by have := HZ.out.2.1; omega) hg6
         have b0 := hm6.cell hkr
         have htk6 : SetM w6 wp.heap.size t := IMap.grown HT.out.tk hg6 (fun e => by injection e with e; omega)
         obtain ⟨rk, hrk⟩ : ∃ rk, rk = rs.getD k 0 := ⟨_, rfl⟩
         rw [← hrk] at b0
         obtain ⟨w7, hupd, hm7, hg7, hs7⟩ := IMap.update (P := Tryz.prog) htk6 Tryz.underlying76 Tryz.underlying3 rk 1
         rw [setF_put] at hm7
         have HT7 := Lib.hid (HT.out.step hkr hpx HZ.out.2.2.2.2.1 HZ.out.2.2.2.2.2 (by have := HZ.out.2.2.1; omega) (by have := HZ.out.2.1; omega) HZ.out.1 HZ.out.2.1 HZ.out.2.2.2.1 hit6 hg6 (by rw [← hrk]; exact hm7) hg7 (by omega))
         clear hmx hlx hpx hx0 hx1 hm6 htk6 hm7 hg7 hs7 hit6 hg6 hs6 hrk
         go_wp2_with fail
         go_roundg cnt'
         case measure => exact hlt6
         case rel => exact ⟨_, _, HT7⟩
     ·go_wp2_with fail
      go_ret2
      have e : j = (orderOf g).length := by omega
      subst e
      refine .inr ⟨HSd.out, br, rs, I, O, rfl, HL.out, ?_, HM.out.regs, HM.out.low⟩
      have := HG2.out
      rw [List.take_length] at this
      rw [← HRd.out]; exact this
end Go.Proofs.YtkmfdiboekoioaaGreat
