/- The depths of a function's code, as the reference 9 tells them: some list, some number. Conditions: a function that lies in memory, whose head and code may be. -/
import Derived.Test.YtkmfdiboekoioaaGreatCRfGrow
import Derived.Test.YtkmfdiboekoioaaGreatCRfHead
import Derived.Test.YtkmfdiboekoioaaGreatCRfLess
import Derived.Test.YtkmfdiboekoioaaGreatCRfOf
import Derived.Test.YtkmfdiboekoioaaGreatCRfReach
import Derived.Test.YtkmfdiboekoioaaGreatCAbvPure
set_option linter.unusedSimpArgs false
set_option linter.unusedVariables false
namespace Go.Proofs.YtkmfdiboekoioaaGreat
open Go.RowKit
theorem next_in {np : Nat} {x : FnP} {pc : Nat} {i : InsP} (hc : CodeF np x) (hi : x.code[pc]? = some i) : ∀ z ∈ nexts09 i pc, 0 ≤ z ∧ z < (x.code.length : Int) := by
 have hpl := (List.getElem?_eq_some_iff.1 hi).1
 have hn := hc.num pc i hi
 have hl := hc.last pc i hi
 intro z hz
 unfold nexts09 at hz
 split at hz
 ·cases hz
 ·split at hz
  ·simp at hz
   subst hz
   rename_i h1 h2
   rcases h2 with h2 | h2
   ·have := hn.ahead (.inl h2); omega
   ·have := hn.back h2; omega
  ·split at hz
   ·rename_i h1 h2 h3
    have := hn.ahead (.inr h3)
    simp at hz
    rcases hz with rfl | rfl
    ·omega
    ·omega
   ·simp at hz
    subst hz
    rename_i h1 h2 h3
    have : pc + 1 ≠ x.code.length := fun e => by have := hl e; omega
    omega
theorem hand_at {w : World} {B n c : Nat} {A : Option Addr} {l : List HandlerP} {k : Nat} {i : HandlerP} (h : HandlersV w B (.slice A n c) l) (hi : l[k]? = some i) : ∃ b off, A = some ⟨b, off, none⟩ ∧ b < B ∧ HandlerAt w b (off + k * 4) i := by
 obtain ⟨A', c', e, _, _, h⟩ := h
 injection e with e1 e2 e3
 obtain ⟨b, o, e4, hb, h⟩ := h (by have := (List.getElem?_eq_some_iff.1 hi).1; omega)
 exact ⟨b, o, e1.trans e4, hb, h k i hi⟩
/-- The memory of depths. -/
structure DpM (w : World) (x : FnP) (y : FVals) (n tb kb lb cap : Nat) (L : List Int) (bad : Bool) (p : ISet) (wr : World) : Prop where
 fb : Blk wr w.heap.size 56 (fnCells x y)
 fv : FnV wr w.heap.size y x
 tl : TlM tb lb w.heap.size n cap L bad wr
 tk : BRow wr kb n p
 low : Below w.heap.size w wr
 tgt : w.heap.size < tb
section
variable {w : World} {x : FnP} {y : FVals} {n tb kb lb cap : Nat} {L : List Int} {bad : Bool} {p : ISet} {wr w2 : World}
theorem TlM.below {base : Nat} (h : TlM tb lb base n cap L bad wr) (hb : Below wr.heap.size wr w2) : TlM tb lb base n cap L bad w2 :=
 ⟨h.tb_.below hb h.tb_.lt, World.ownsRow.kept (row := none) h.own ⟨hb.os, hb.tape, hb.output, hb.size, fun k hk _ => hb.block k hk⟩ (.inr (by simp [Value.ownBlock])), h.len, h.ne⟩
theorem DpM.below (h : DpM w x y n tb kb lb cap L bad p wr) (hb : Below wr.heap.size wr w2) : DpM w x y n tb kb lb cap L bad p w2 :=
 ⟨h.fb.below hb h.fb.lt, h.fv.keep (Same.of_below (hb.mono h.low.size)), h.tl.below hb, h.tk.below hb h.tk.lt, h.low.trans (hb.mono h.low.size), h.tgt⟩
theorem DpM.lbs (h : DpM w x y n tb kb lb cap L bad p wr) : w.heap.size ≤ lb ∧ lb ≠ w.heap.size ∧ lb ≠ kb ∧ tb ≠ kb := by
 have h1 := own_ne_blk h.tl.own h.fb (by decide)
 have h2 := own_ne_blk h.tl.own h.tk (by decide)
 refine ⟨(World.ownsRow.lt h.tl.own lb rfl).1, fun e => h1 (by rw [← e]; rfl), fun e => h2 (by rw [← e]; rfl), fun e => ?_⟩
 have h3 := h.tl.tb_
 rw [e] at h3
 exact absurd (blk_type h3 h.tk) (by decide)
theorem DpM.tell (h : DpM w x y n tb kb lb cap L bad p wr) {L' : List Int} {bad' : Bool} (ht : TlM tb lb w.heap.size n cap L' bad' w2) (ho : Only2 tb lb wr w2) : DpM w x y n tb kb lb cap L' bad' p w2 := by
 obtain ⟨l1, l2, l3, l4⟩ := h.lbs
 have hb : Below w.heap.size wr w2 := ⟨ho.os, ho.tape, ho.output, Nat.le_of_eq ho.size.symm, fun k hk => ho.block k (by have := h.tgt; omega) (by omega)⟩
 exact ⟨(ho.block _ (Nat.ne_of_lt h.tgt) l2.symm).trans h.fb, h.fv.keep (Same.of_below hb), ht, (ho.block _ l4.symm l3.symm).trans h.tk, h.low.trans hb, h.tgt⟩
theorem DpM.take (h : DpM w x y n tb kb lb cap L bad p wr) {j : Nat} (hj : j < n) (hk : w.heap.size < kb) : DpM w x y n tb kb lb cap L bad (fun z => p z || z == (j : Int)) (wr.setCell ⟨kb, j, none⟩ (.bool true)) := by
 obtain ⟨l1, l2, l3, l4⟩ := h.lbs
 have hb : Below w.heap.size wr (wr.setCell ⟨kb, j, none⟩ (.bool true)) := (Below.refl _ _).setCell (p := ⟨kb, j, none⟩) (Nat.le_of_lt hk) _
 refine ⟨h.fb.far (p := ⟨kb, j, none⟩) (Nat.ne_of_lt hk) _, h.fv.keep (Same.of_below hb), ⟨h.tl.tb_.far (p := ⟨kb, j, none⟩) l4 _, World.ownsRow.kept (row := some kb) h.tl.own ⟨rfl, rfl, rfl, by simp [World.setCell], fun k _ hk => Below.heap_setCell _ _ _ k (fun e => hk (by rw [e]))⟩ (.inr (by simp [Value.ownBlock]; exact l3)), h.tl.len, h.tl.ne⟩, ?_, h.low.trans hb, h.tgt⟩
 have h1 := h.tk.set_ j (.bool true)
 rw [bcells_set hj] at h1
 have e : bcells n (fun z => if z = (j : Int) then true else p z) = bcells n (fun z => p z || z == (j : Int)) := bcells_congr fun i _ => by
  by_cases e : (i : Int) = (j : Int) <;> simp [e]
 rw [e] at h1
 exact h1
theorem DpM.told (h : DpM w x y n tb kb lb cap L bad p wr) {j : Nat} (hj : j < n) : ∃ z, wr.cell? ⟨lb, j, none⟩ = some (.int .i64 z) ∧ lb < wr.heap.size := by
 have hown : wr.ownsRow w.heap.size 3 1 (.slice (some ⟨lb, 0, none⟩) n cap) n (L.map (Value.int .i64)) := by have := h.tl.own; unfold OwnInts at this; rw [h.tl.len] at this; exact this
 obtain ⟨z, hz⟩ := rget (l := L) (k := j) (by have := h.tl.len; omega)
 exact ⟨z, by rw [World.ownsRow.cellAt hown j (by omega), List.getElem?_map, hz]; rfl, (World.ownsRow.lt hown lb rfl).2⟩
end
/-- While nothing is told yet. -/
structure D1M (w : World) (x : FnP) (y : FVals) (n tb kb : Nat) (v : Value) (k : Nat) (wr : World) : Prop where
 fb : Blk wr w.heap.size 56 (fnCells x y)
 fv : FnV wr w.heap.size y x
 tb_ : Blk wr tb 167 #[v, .bool false]
 own : OwnInts wr w.heap.size v (List.replicate k (-1))
 tk : BRow wr kb n ISet.empty
 low : Below w.heap.size w wr
 tgt : w.heap.size < tb
theorem D1M.put {w : World} {x : FnP} {y : FVals} {n tb kb : Nat} {v v' : Value} {k : Nat} {wr w5 : World} {o : Obj} (h : D1M w x y n tb kb v k wr) (hown : OwnInts w5 w.heap.size v' (List.replicate k (-1) ++ [-1])) (hg : (wr.alloc o).grownBy w5 v.ownBlock) : D1M w x y n tb kb v' (k + 1) (w5.setCell ⟨tb, 0, none⟩ v') ∧ Blk w5 tb 167 #[v, .bool false] := by
 have hba : Below wr.heap.size wr (wr.alloc o) := (Below.refl _ _).alloc (Nat.le_refl _) _
 have ho : OwnInts (wr.alloc o) w.heap.size v (List.replicate k (-1)) := World.ownsRow.alloc h.own o
 have n1 := own_ne_blk ho (h.fb.alloc o) (by decide)
 have n2 := own_ne_blk ho (h.tb_.alloc o) (by decide)
 have n3 := own_ne_blk ho (h.tk.alloc o) (by decide)
 have b1 : Blk w5 tb 167 #[v, .bool false] := (h.tb_.alloc o).grown hg n2.symm
 have hb : Below w.heap.size wr (w5.setCell ⟨tb, 0, none⟩ v') := ((hba.mono h.low.size).grown hg (Nat.le_trans h.low.size hba.size) (fun q e => (World.ownsRow.lt ho q e).1)).setCell (p := ⟨tb, 0, none⟩) (Nat.le_of_lt h.tgt) _
 have f1 : Blk w5 w.heap.size 56 (fnCells x y) := (h.fb.alloc o).grown hg n1.symm
 have k1 : BRow w5 kb n ISet.empty := (h.tk.alloc o).grown hg n3.symm
 have nk : kb ≠ tb := fun e => by
  rw [e] at k1
  exact absurd (blk_type k1 b1) (by decide)
 refine ⟨⟨f1.far (p := ⟨tb, 0, none⟩) (Nat.ne_of_lt h.tgt) _, h.fv.keep (Same.of_below hb), b1.set_ 0 v', ?_, k1.far (p := ⟨tb, 0, none⟩) nk _, h.low.trans hb, h.tgt⟩, b1⟩
 have e : List.replicate (k + 1) (-1 : Int) = List.replicate k (-1) ++ [-1] := List.replicate_succ'
 rw [e]
 have n4 := own_ne_blk hown b1 (by decide)
 exact World.ownsRow.kept (row := some tb) hown ⟨rfl, rfl, rfl, by simp [World.setCell], fun k _ hk => Below.heap_setCell _ _ _ k (fun e => hk (by rw [e]))⟩ (.inr n4)
theorem D1M.done {w : World} {x : FnP} {y : FVals} {n tb kb : Nat} {v : Value} {wr : World} (h : D1M w x y n tb kb v n wr) (hn : 0 < n) : ∃ lb cap, v = .slice (some ⟨lb, 0, none⟩) n cap ∧ DpM w x y n tb kb lb cap (List.replicate n (-1)) false ISet.empty wr := by
 obtain ⟨lb, cap, rfl⟩ : ∃ lb cap, v = .slice (some ⟨lb, 0, none⟩) n cap := by
  rcases h.own.2 with ⟨_, h0⟩ | ⟨g, cap, cur, e, _⟩
  ·simp at h0; omega
  ·exact ⟨g, cap, by rw [e]; simp⟩
 have n2 := own_ne_blk h.own h.tb_ (by decide)
 exact ⟨lb, cap, rfl, h.fb, h.fv, ⟨h.tb_, h.own, by simp, fun e => n2 (by rw [e]; rfl)⟩, h.tk, h.low, h.tgt⟩
def Dep09 (w : World) (e : Ending) (w' : World) : Prop := ∃ (l : List Int) (v : Value) (z : Int), e = .returned (.tuple #[v, .int .i64 z]) ∧ IntsV w' w'.heap.size v l ∧ Below w.heap.size w w'
end Go.Proofs.YtkmfdiboekoioaaGreat

/- Which block stands above which: plain facts of an order. No condition. -/
namespace Go.Proofs.YtkmfdiboekoioaaGreat
open Go.RowKit
theorem reach_ind {g : GraphP} {wo : Int} {P : Int → Prop} (h0 : okB g wo 0 → P 0) (hs : ∀ c n, Reach g wo 0 c → P c → n ∈ nextOf g c → okB g wo n → P n) (z : Int) (h : Reach g wo 0 z) : P z := by
 have key : ∀ b y, Reach g wo b y → Reach g wo 0 b → P b → P y := by
  intro b y hy
  induction hy with
  | refl b _ => exact fun _ h => h
  | step b n y hb hn hr ih => exact fun h1 h2 => ih (h1.snoc hn hr.ok') (hs b n h1 h2 hn hr.ok')
 exact key 0 z h (Reach.refl 0 h.ok') (h0 h.ok')
theorem Reach.free {g : GraphP} {wo z : Int} (h : Reach g wo 0 z) : Reach g (-1) 0 z :=
 reach_ind (P := fun z => Reach g (-1) 0 z) (fun h => .refl 0 ⟨h.1, h.2.1, by omega⟩) (fun _ _ _ hc hn ho => hc.snoc hn ⟨ho.1, ho.2.1, by have := ho.1; omega⟩) z h
theorem reach_both {g : GraphP} {a b : Int} (ha : ¬ Reach g b 0 a) (hb : ¬ Reach g a 0 b) (hne : a ≠ b) (z : Int) (h : Reach g (-1) 0 z) : Reach g a 0 z ∧ Reach g b 0 z := by
 refine reach_ind (P := fun z => Reach g a 0 z ∧ Reach g b 0 z) (fun h => ?_) (fun c n _ hc hn ho => ?_) z h
 ·have h1 : (0 : Int) ≠ a := fun e => ha (by rw [← e]; exact .refl 0 ⟨h.1, h.2.1, by rw [e]; exact hne⟩)
  have h2 : (0 : Int) ≠ b := fun e => hb (by rw [← e]; exact .refl 0 ⟨h.1, h.2.1, by rw [e]; exact hne.symm⟩)
  exact ⟨.refl 0 ⟨h.1, h.2.1, h1⟩, .refl 0 ⟨h.1, h.2.1, h2⟩⟩
 ·have h1 : n ≠ a := fun e => ha (by rw [← e]; exact hc.2.snoc hn ⟨ho.1, ho.2.1, by rw [e]; exact hne⟩)
  have h2 : n ≠ b := fun e => hb (by rw [← e]; exact hc.1.snoc hn ⟨ho.1, ho.2.1, by rw [e]; exact hne.symm⟩)
  exact ⟨hc.1.snoc hn ⟨ho.1, ho.2.1, h1⟩, hc.2.snoc hn ⟨ho.1, ho.2.1, h2⟩⟩
/-- Of two unlike blocks that are come to not each stands above the other. -/
theorem abv_anti {g : GraphP} {a b : Nat} (ra : Reach g (-1) 0 (a : Int)) (rb : Reach g (-1) 0 (b : Int)) (hne : a ≠ b) (h1 : abv g a b) (h2 : abv g b a) : False := by
 have q1 : ¬ Reach g (a : Int) 0 (b : Int) := by
  rcases h1 with h | h | h
  ·exact absurd rb h
  ·exact absurd h hne
  ·exact h
 have q2 : ¬ Reach g (b : Int) 0 (a : Int) := by
  rcases h2 with h | h | h
  ·exact absurd ra h
  ·exact absurd h.symm hne
  ·exact h
 exact q2 (reach_both q2 q1 (by omega) a ra).2
theorem reach_one {g : GraphP} {a b : Int} (ha : Reach g b 0 a) (hb : Reach g a 0 b) (z : Int) (h : Reach g (-1) 0 z) : Reach g a 0 z ∨ Reach g b 0 z := by
 refine reach_ind (P := fun z => Reach g a 0 z ∨ Reach g b 0 z) (fun h => ?_) (fun c n _ hc hn ho => ?_) z h
 ·by_cases e : (0 : Int) = a
  ·exact .inr (.refl 0 ⟨h.1, h.2.1, by rw [e]; exact ha.ok.2.2⟩)
  ·exact .inl (.refl 0 ⟨h.1, h.2.1, e⟩)
 ·by_cases e1 : n = a
  ·exact .inr (e1 ▸ ha)
  ·by_cases e2 : n = b
   ·exact .inl (e2 ▸ hb)
   ·rcases hc with hc | hc
    ·exact .inl (hc.snoc hn ⟨ho.1, ho.2.1, e1⟩)
    ·exact .inr (hc.snoc hn ⟨ho.1, ho.2.1, e2⟩)
/-- Of two that stand above a third one, one stands above the other. -/
theorem abv_total {g : GraphP} {a b c : Nat} (rc : Reach g (-1) 0 (c : Int)) (hac : a ≠ c) (hbc : b ≠ c) (h1 : abv g a c) (h2 : abv g b c) : abv g a b ∨ abv g b a := by
 have q1 : ¬ Reach g (a : Int) 0 (c : Int) := by
  rcases h1 with h | h | h
  ·exact absurd rc h
  ·exact absurd h hac
  ·exact h
 have q2 : ¬ Reach g (b : Int) 0 (c : Int) := by
  rcases h2 with h | h | h
  ·exact absurd rc h
  ·exact absurd h hbc
  ·exact h
 refine Classical.byContradiction fun hn => ?_
 have n1 : Reach g (a : Int) 0 (b : Int) := Classical.byContradiction fun h => hn (.inl (.inr (.inr h)))
 have n2 : Reach g (b : Int) 0 (a : Int) := Classical.byContradiction fun h => hn (.inr (.inr (.inr h)))
 rcases reach_one n2 n1 c rc with h | h
 ·exact q1 h
 ·exact q2 h
theorem abv_trans {g : GraphP} {a b c : Nat} (rb : Reach g (-1) 0 (b : Int)) (h1 : abv g a b) (h2 : abv g b c) : abv g a c := by
 rcases h2 with h2 | rfl | h2
 ·exact .inl h2
 ·exact h1
 ·rcases h1 with h1 | rfl | h1
  ·exact absurd rb h1
  ·exact .inr (.inr h2)
  ·by_cases e : a = c
   ·exact .inr (.inl e)
   ·refine .inr (.inr fun h => ?_)
    have : Reach g (b : Int) 0 (c : Int) := by
     have key := reach_ind (wo := (a : Int)) (P := fun z => Reach g (b : Int) 0 z) (g := g) (fun h => .refl 0 ⟨h.1, h.2.1, fun e => h1 (by rw [← e]; exact .refl 0 h)⟩)
      (fun x n hx hc hn ho => hc.snoc hn ⟨ho.1, ho.2.1, fun e => h1 (by rw [← e]; exact hx.snoc hn ho)⟩) c h
     exact key
    exact h2 this
/-- Each block is come to. -/
def AllReach (g : GraphP) : Prop := ∀ b : Nat, b < g.blocks.length → Reach g (-1) 0 (b : Int)
theorem allReach_of {g : GraphP} (hpos : 0 < g.blocks.length) (h : ∀ n : Nat, 0 < n → n < g.blocks.length → ∃ m : Nat, m < n ∧ (n : Int) ∈ nextOf g (m : Int)) : AllReach g := by
 intro b
 induction b using Nat.strongRecOn with
 | ind b ih =>
  intro hb
  by_cases h0 : b = 0
  ·subst h0; exact .refl 0 ⟨by omega, by omega, by omega⟩
  ·obtain ⟨m, hm, hn⟩ := h b (by omega) hb
   exact (ih m hm (by omega)).snoc hn ⟨by omega, by omega, by omega⟩
/-- A node stands ahead of another one. -/
def Before (g : GraphP) (A : Nat → Nat × Nat) (z y : Nat) : Prop := ((A z).1 = (A y).1 ∧ (A z).2 < (A y).2) ∨ ((A z).1 ≠ (A y).1 ∧ abv g (A z).1 (A y).1)
theorem Places.inj {g : GraphP} {A : Nat → Nat × Nat} (h : Places g A) {x y : Nat} (hx : x < g.nodes.length) (hy : y < g.nodes.length) (e : A x = A y) : x = y := by
 obtain ⟨p, h1, h2⟩ := h.has x hx
 obtain ⟨q, h3, h4⟩ := h.has y hy
 rw [e, h3] at h1; injection h1 with h1; subst h1
 rw [e, h4] at h2; injection h2 with h2; omega
theorem Places.blk {g : GraphP} {A : Nat → Nat × Nat} (h : Places g A) {x : Nat} (hx : x < g.nodes.length) : (A x).1 < g.blocks.length := by
 obtain ⟨p, h1, _⟩ := h.has x hx
 rcases Nat.lt_or_ge (A x).1 g.blocks.length with q | q
 ·exact q
 ·rw [List.getElem?_eq_none q] at h1; cases h1
theorem Places.at_ {g : GraphP} {A : Nat → Nat × Nat} (h : Places g A) {n b i : Nat} {x : BlockP} (hn : n < g.nodes.length) (hx : g.blocks[b]? = some x) (hi : x.nodes[i]? = some (n : Int)) : A n = (b, i) := by
 obtain ⟨k, e, _, hk⟩ := h.put b x i n hx hi
 obtain rfl : n = k := by omega
 exact hk
theorem before_or {g : GraphP} {A : Nat → Nat × Nat} (h : GOk g A) (hr : AllReach g) {x y b i j : Nat} (hb : b < g.blocks.length) (hne : x ≠ y) (h1 : standsP g A x b i) (h2 : standsP g A y b j) : Before g A x y ∨ Before g A y x := by
 obtain ⟨_, hx, h1⟩ := h1
 obtain ⟨_, hy, h2⟩ := h2
 rw [Int.toNat_natCast] at h1 h2
 have hxl : x < g.nodes.length := by omega
 have hyl : y < g.nodes.length := by omega
 by_cases e : (A x).1 = (A y).1
 ·rcases Nat.lt_trichotomy (A x).2 (A y).2 with q | q | q
  ·exact .inl (.inl ⟨e, q⟩)
  ·exact absurd (h.pl.inj hxl hyl (Prod.ext e q)) hne
  ·exact .inr (.inl ⟨e.symm, q⟩)
 ·rcases h1 with ⟨h1, _⟩ | ⟨h1, h1'⟩
  ·rcases h2 with ⟨h2, _⟩ | ⟨_, h2⟩
   ·exact absurd (h1.trans h2.symm) e
   ·exact .inr (.inr ⟨fun q => e q.symm, by rw [h1]; exact h2⟩)
  ·rcases h2 with ⟨h2, _⟩ | ⟨h2, h2'⟩
   ·exact .inl (.inr ⟨e, by rw [h2]; exact h1'⟩)
   ·rcases abv_total (hr b hb) h1 h2 h1' h2' with q | q
    ·exact .inl (.inr ⟨e, q⟩)
    ·exact .inr (.inr ⟨fun q => e q.symm, q⟩)
end Go.Proofs.YtkmfdiboekoioaaGreat
