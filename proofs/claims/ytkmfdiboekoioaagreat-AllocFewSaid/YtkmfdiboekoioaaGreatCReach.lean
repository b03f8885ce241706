/- The walk of graph.reached: the blocks that block 0 leads to without going through one. Conditions: a graph that is small. -/
import Derived.Test.YtkmfdiboekoioaaGreatCSpotMem
import Derived.Laws.MakeOwn
import Derived.Laws.EntriesVeiled
import Derived.Deep.QuietTactic
import Derived.BigQuiet
import Derived.WalkKit
import Derived.RangeFuncBox
import Derived.Test.YtkmfdiboekoioaaGreatCIter
set_option linter.unusedSimpArgs false
set_option linter.unusedVariables false
namespace Go.Proofs.YtkmfdiboekoioaaGreat
open Go.RowKit

/-- A block that may be gone through. -/
def okB (g : GraphP) (wo n : Int) : Prop := 0 ≤ n ∧ n < (g.blocks.length : Int) ∧ n ≠ wo
def nextOf (g : GraphP) (n : Int) : List Int := match blockAt g n with | some x => x.next | none => []
inductive Reach (g : GraphP) (wo : Int) : Int → Int → Prop
 | refl (b : Int) : okB g wo b → Reach g wo b b
 | step (b n z : Int) : okB g wo b → n ∈ nextOf g b → Reach g wo n z → Reach g wo b z
theorem Reach.ok {g : GraphP} {wo b z : Int} (h : Reach g wo b z) : okB g wo z := by
 induction h with
 | refl b h => exact h
 | step b n z _ _ _ ih => exact ih
theorem Reach.ok' {g : GraphP} {wo b z : Int} (h : Reach g wo b z) : okB g wo b := by
 cases h with
 | refl _ h => exact h
 | step _ n _ h _ _ => exact h
theorem Reach.snoc {g : GraphP} {wo b z n : Int} (h : Reach g wo b z) (hn : n ∈ nextOf g z) (ho : okB g wo n) : Reach g wo b n := by
 induction h with
 | refl b h => exact .step b n n h hn (.refl n ho)
 | step b m z hb hm _ ih => exact .step b m n hb hm (ih hn)

/-- What a walk from b makes of the set of those seen. -/
structure WalkOk (g : GraphP) (wo : Int) (p : ISet) (b : Int) (q : ISet) : Prop where
 le : p.le q
 bound : Bounded g.blocks.length q
 sound : ∀ z, q z = true → p z = true ∨ Reach g wo b z
 closed : ∀ z, q z = true → p z = false → ∀ n ∈ nextOf g z, okB g wo n → q n = true
 there : okB g wo b → q b = true
theorem WalkOk.none {g : GraphP} {wo : Int} {p : ISet} {b : Int} (hb : Bounded g.blocks.length p) (h : ¬ okB g wo b ∨ p b = true) : WalkOk g wo p b p :=
 ⟨ISet.le_refl p, hb, fun _ h => .inl h, (fun z h1 h2 => by rw [h1] at h2; cases h2), fun ho => h.elim (fun h => absurd ho h) id⟩
/-- While a block's next ones are gone through: k of them are. -/
structure WalkTo (g : GraphP) (wo : Int) (p : ISet) (b : Int) (x : BlockP) (k : Nat) (q : ISet) : Prop where
 le : p.le q
 bound : Bounded g.blocks.length q
 sound : ∀ z, q z = true → p z = true ∨ Reach g wo b z
 closed : ∀ z, q z = true → p z = false → z ≠ b → ∀ n ∈ nextOf g z, okB g wo n → q n = true
 there : q b = true
 sofar : ∀ n ∈ x.next.take k, okB g wo n → q n = true
theorem WalkTo.first {g : GraphP} {wo b : Int} {p : ISet} {x : BlockP} (hb : Bounded g.blocks.length p) (ho : okB g wo b) : WalkTo g wo p b x 0 (fun z => p z || z == b) :=
 ⟨fun z h => by simp [h], fun z h => by
   simp only [Bool.or_eq_true, beq_iff_eq] at h
   rcases h with h | rfl
   ·exact hb z h
   ·exact ⟨ho.1, ho.2.1⟩,
  fun z h => by
   simp only [Bool.or_eq_true, beq_iff_eq] at h
   rcases h with h | rfl
   ·exact .inl h
   ·exact .inr (.refl _ ho),
  fun z h1 h2 h3 => by
   simp only [Bool.or_eq_true, beq_iff_eq] at h1
   rcases h1 with h1 | h1
   ·rw [h1] at h2; cases h2
   ·exact absurd h1 h3,
  by simp, fun n h => by simp at h⟩
theorem WalkTo.step {g : GraphP} {wo b n : Int} {p q q' : ISet} {x : BlockP} {k : Nat} (h : WalkTo g wo p b x k q) (ho : okB g wo b) (hx : blockAt g b = some x) (hn : x.next[k]? = some n) (hw : WalkOk g wo q n q') : WalkTo g wo p b x (k + 1) q' := by
 have hnx : n ∈ nextOf g b := by unfold nextOf; rw [hx]; exact List.mem_of_getElem? hn
 refine ⟨ISet.le_trans h.le hw.le, hw.bound, fun z hz => ?_, fun z h1 h2 h3 m hm hmo => ?_, hw.le _ h.there, fun m hm hmo => ?_⟩
 ·rcases hw.sound z hz with h1 | h1
  ·exact h.sound z h1
  ·exact .inr (.step b n z ho hnx h1)
 ·cases hq : q z
  ·exact hw.closed z h1 hq m hm hmo
  ·exact hw.le _ (h.closed z hq h2 h3 m hm hmo)
 ·rw [List.take_add_one, hn] at hm
  rcases List.mem_append.1 hm with hm | hm
  ·exact hw.le _ (h.sofar m hm hmo)
  ·simp only [Option.toList_some, List.mem_singleton] at hm
   subst hm
   exact hw.there hmo
theorem WalkTo.done {g : GraphP} {wo b : Int} {p q : ISet} {x : BlockP} (h : WalkTo g wo p b x x.next.length q) (hx : blockAt g b = some x) : WalkOk g wo p b q :=
 ⟨h.le, h.bound, h.sound, fun z h1 h2 n hn hno => by
  by_cases e : z = b
  ·subst e
   unfold nextOf at hn
   rw [hx] at hn
   exact h.sofar n (by rw [List.take_length]; exact hn) hno
  ·exact h.closed z h1 h2 e n hn hno, fun _ => h.there⟩
theorem WalkOk.all {g : GraphP} {wo : Int} {q : ISet} (h : WalkOk g wo ISet.empty 0 q) (z : Int) : q z = true ↔ Reach g wo 0 z := by
 constructor
 ·intro hz
  rcases h.sound z hz with h1 | h1
  ·cases h1
  ·exact h1
 ·intro hz
  have key : ∀ b z, Reach g wo b z → q b = true → q z = true := fun b z hr => by
   induction hr with
   | refl b _ => exact fun h => h
   | step b n z hb hn hr ih => exact fun hqb => ih (h.closed b hqb rfl n hn hr.ok')
  exact key 0 z hz (h.there hz.ok')

def WalkIs (g : GraphP) (wo : Int) (r : Nat) (p : ISet) (b : Int) (w : World) (e : Ending) (w' : World) : Prop := ∃ q, e = .returned (.tuple #[]) ∧ WalkOk g wo p b q ∧ SetM w' r q ∧ w.grownBy w' (some r)
theorem card_put {N : Nat} {p : ISet} {b : Int} (h0 : 0 ≤ b) (h1 : b < (N : Int)) (hp : p b = false) : card N p < card N (fun z => p z || z == b) := by
 obtain ⟨k, rfl⟩ := Int.eq_ofNat_of_zero_le h0
 exact filter_len_lt (fun i hi => by simp [hi]) (a := k) (List.mem_range.2 (by omega)) hp (by simp)
/-- The memory of graph.reached. -/
structure RchMem (g : GraphP) (xv : GVals) (B bx bw bs bf r : Nat) (wo : Int) (w : World) : Prop where
 gr : GCtx w B bx xv g
 wo_ : Blk w bw 3 #[.int .i64 wo]
 seen : Blk w bs 76 #[.map (some r)]
 fn : Blk w bf 123 #[.func (.func 97) #[] #[.pointer (some ⟨bx, 0, none⟩), .pointer (some ⟨bw, 0, none⟩), .pointer (some ⟨bs, 0, none⟩), .pointer (some ⟨bf, 0, none⟩)]]
theorem RchMem.turn {g : GraphP} {xv : GVals} {B bx bw bs bf r : Nat} {wo : Int} {w w' : World} {p q : ISet} (h : RchMem g xv B bx bw bs bf r wo w) (hp : SetM w r p) (hq : SetM w' r q) (hg : w.grownBy w' (some r)) : RchMem g xv B bx bw bs bf r wo w' :=
 ⟨h.gr.turn hp hq hg, h.wo_.grown hg (blk_ne_map h.wo_ hp), h.seen.grown hg (blk_ne_map h.seen hp), h.fn.grown hg (blk_ne_map h.fn hp)⟩
theorem RchMem.cells {g : GraphP} {xv : GVals} {B bx bw bs bf r : Nat} {wo : Int} {w : World} (h : RchMem g xv B bx bw bs bf r wo w) :
  w.cell? ⟨bx, 4, none⟩ = some xv.vb ∧ w.cell? ⟨bw, 0, none⟩ = some (.int .i64 wo) ∧ w.cell? ⟨bs, 0, none⟩ = some (.map (some r)) ∧
  w.cell? ⟨bf, 0, none⟩ = some (.func (.func 97) #[] #[.pointer (some ⟨bx, 0, none⟩), .pointer (some ⟨bw, 0, none⟩), .pointer (some ⟨bs, 0, none⟩), .pointer (some ⟨bf, 0, none⟩)]) :=
 ⟨h.gr.cells.2.2.2.2.1, h.wo_.cell 0, h.seen.cell 0, h.fn.cell 0⟩
theorem walk_none (g : GraphP) (xv : GVals) (B bx bw bs bf r : Nat) (wo : Int) (hs : Small g) (p : ISet) (b : Int) (w : World) (hp : SetM w r p) (hm : RchMem g xv B bx bw bs bf r wo w) (h : ¬ okB g wo b ∨ p b = true) :
  Calls Tryz.prog 97 #[.int .i64 b, .pointer (some ⟨bx, 0, none⟩), .pointer (some ⟨bw, 0, none⟩), .pointer (some ⟨bs, 0, none⟩), .pointer (some ⟨bf, 0, none⟩)] w (fun e w' => e = .returned (.tuple #[]) ∧ w' = w) := by
 obtain ⟨f0, f1, f2, f3⟩ := hm.cells
 obtain ⟨vn, vb, vs⟩ := xv
 obtain ⟨Ab, cb, e0, _, hlb, _⟩ := hm.gr.gr.2.1
 simp only at e0
 subst e0
 simp only at f0
 obtain ⟨l1, l2, l3⟩ := hs.lens
 have hlook := (IMap.look (P := Tryz.prog) hp Tryz.underlying76 Tryz.underlying3 (by kernel_rfl) b).1
 have HH := Lib.hid h
 clear h hm hp
 by_cases h0 : b < 0
 ·clear hlook
  go_enter Tryz.func97, Tryz.ntmps97
  go_wp2_with fail
  refine bodyPost_ret (results_none rfl _ _ _) rfl ?_
  exact ⟨rfl, rfl⟩
 ·by_cases h1 : (g.blocks.length : Int) ≤ b
  ·clear hlook
   go_enter Tryz.func97, Tryz.ntmps97
   go_wp2_with fail
   refine bodyPost_ret (results_none rfl _ _ _) rfl ?_
   exact ⟨rfl, rfl⟩
  ·by_cases h2 : b = wo
   ·subst h2
    clear hlook
    go_enter Tryz.func97, Tryz.ntmps97
    go_wp2_with fail
    refine bodyPost_ret (results_none rfl _ _ _) rfl ?_
    exact ⟨rfl, rfl⟩
   ·have hb : (b == wo) = false := by simp [h2]
    have hpb : p b = true := HH.out.resolve_left (fun h => h ⟨by omega, by omega, h2⟩)
    rw [setF_getD p b hpb] at hlook
    clear HH h2
    go_enter Tryz.func97, Tryz.ntmps97
    go_wp2_with fail
    refine bodyPost_ret (results_none rfl _ _ _) rfl ?_
    exact ⟨rfl, rfl⟩
set_option maxRecDepth 100000 in
set_option maxHeartbeats 4000000 in
theorem walk_any (g : GraphP) (xv : GVals) (B bx bw bs bf r : Nat) (wo : Int) (hs : Small g) : ∀ (m : Nat) (p : ISet) (b : Int) (w : World), g.blocks.length - card g.blocks.length p ≤ m → Bounded g.blocks.length p → SetM w r p → RchMem g xv B bx bw bs bf r wo w →
  Calls Tryz.prog 97 #[.int .i64 b, .pointer (some ⟨bx, 0, none⟩), .pointer (some ⟨bw, 0, none⟩), .pointer (some ⟨bs, 0, none⟩), .pointer (some ⟨bf, 0, none⟩)] w (WalkIs g wo r p b w) := by
 intro m
 induction m with
 | zero =>
  intro p b w hm hb hp hr
  refine (walk_none g xv B bx bw bs bf r wo hs p b w hp hr ?_).mono ?_
  ·by_cases ho : okB g wo b
   ·cases hpb : p b
    ·have := card_put ho.1 ho.2.1 hpb
     have := card_le g.blocks.length (fun z => p z || z == b)
     omega
    ·exact .inr rfl
   ·exact .inl ho
  ·rintro e w' ⟨rfl, rfl⟩
   refine ⟨p, rfl, WalkOk.none hb ?_, hp, World.grownBy.refl _ _⟩
   by_cases ho : okB g wo b
   ·cases hpb : p b
    ·have := card_put ho.1 ho.2.1 hpb
     have := card_le g.blocks.length (fun z => p z || z == b)
     omega
    ·exact .inr rfl
   ·exact .inl ho
 | succ m ih =>
  intro p b w hm hb hp hr
  by_cases hno : ¬ okB g wo b ∨ p b = true
  ·refine (walk_none g xv B bx bw bs bf r wo hs p b w hp hr hno).mono ?_
   rintro e w' ⟨rfl, rfl⟩
   exact ⟨p, rfl, WalkOk.none hb hno, hp, World.grownBy.refl _ _⟩
  ·have ho : okB g wo b := Classical.byContradiction fun h => hno (.inl h)
   have hpb : p b = false := Bool.eq_false_iff.2 fun h => hno (.inr h)
   clear hno
   have hcard := card_put ho.1 ho.2.1 hpb
   obtain ⟨k, rfl⟩ := Int.eq_ofNat_of_zero_le ho.1
   have hk : k < g.blocks.length := by have := ho.2.1; omega
   have hne : ((k : Int) == wo) = false := by simp; exact ho.2.2
   obtain ⟨x, hx⟩ := getE hk
   have hxb : blockAt g (k : Int) = some x := by rw [blockAt_nat]; exact hx
   obtain ⟨f0, f1, f2, f3⟩ := hr.cells
   obtain ⟨vn, vb, vs⟩ := xv
   obtain ⟨Ab, cb, e0, _, hlb, hpb2⟩ := hr.gr.gr.2.1
   simp only at e0
   subst e0
   simp only at f0
   obtain ⟨bm, offm, rfl, hbm, hpm⟩ := hpb2 (by omega)
   obtain ⟨y, hy, g0, g1, g2, g3, g4, g5⟩ := (hpm k x hx).parts
   obtain ⟨v0, v2, v3, v4⟩ := y
   simp only at g0 g2 g3 g4
   obtain ⟨A3, c3, e3⟩ := hy.p3.shape
   simp only at e3
   subst e3
   have HN3 := Lib.hid (show IntsV w B (.slice A3 x.next.length c3) x.next from hy.p3)
   have hl3 : x.next.length ≤ 5000 := (hs.block hx).2.2.1
   obtain ⟨l1, l2, l3⟩ := hs.lens
   have hlook := (IMap.look (P := Tryz.prog) hp Tryz.underlying76 Tryz.underlying3 (by kernel_rfl) (k : Int)).1
   have hgd : (setF p (k : Int)).getD 0 = 0 := by unfold setF; rw [hpb]; rfl
   rw [hgd] at hlook
   obtain ⟨w1, hupd, hm1, hg1, hs1⟩ := IMap.update (P := Tryz.prog) hp Tryz.underlying76 Tryz.underlying3 (k : Int) 1
   rw [setF_put] at hm1
   have HP := Lib.hid hp; have HR := Lib.hid hr; have HM1 := Lib.hid hm1; have HG1 := Lib.hid hg1; have HO := Lib.hid ho; have HXb := Lib.hid hxb; have HCard := Lib.hid hcard; have HB := Lib.hid hb; have HMm := Lib.hid hm; have HPb := Lib.hid hpb
   have c3' := grown_cell hp hm1 hg1 g3
   have c0' := grown_cell hp hm1 hg1 f0
   clear hpm hpb2 hy g0 g1 g2 g4 g5 hp hr hm1 hg1 hs1 ho hxb hcard hb hm hpb hgd hx
   have hd1 : decide ((k : Int) < 0) = false := by simp
   have hd2 : decide (g.blocks.length ≤ k) = false := by simp; omega
   go_enter Tryz.func97, Tryz.ntmps97
   go_wp2_with fail
   clear hlook hupd f0 f1 f2 f3 g3 c3' c0'
   go_loopw [37] (fun i wr => ∃ (j : Nat) (q : ISet), i = .int .i64 j ∧ j ≤ x.next.length ∧ Hid (WalkTo g wo p (k : Int) x j q) ∧ Hid (SetM wr r q) ∧ Hid (w.grownBy wr (some r))) (fun i _ => x.next.length - (intOf i).toNat)
   case atStart => exact ⟨0, _, rfl, Nat.zero_le _, Lib.hid (WalkTo.first HB.out HO.out), HM1, HG1⟩
   case round =>
    obtain ⟨j, q, rfl, hj, HW, HQ, HG⟩ := hrel
    by_cases hlt : j < x.next.length
    ·obtain ⟨bn, offn, rfl, _, hpn⟩ := (grown_ints HP.out HQ.out HG.out HR.out.gr.hB HN3.out).cells hlt
     obtain ⟨n, hn⟩ := getE hlt
     have d0 := hpn j n hn
     have HNn := Lib.hid hn
     have HRr := Lib.hid (HR.out.turn HP.out HQ.out HG.out)
     have d1 := HRr.out.cells.2.2.2
     clear hpn hn
     have HCm : Hid (g.blocks.length - card g.blocks.length q ≤ m) := Lib.hid (by
      have h1 : card g.blocks.length (fun z => p z || z == (k : Int)) ≤ card g.blocks.length q := card_mono (fun z hz => by
       simp only [Bool.or_eq_true, beq_iff_eq] at hz
       rcases hz with hz | rfl
       ·exact HW.out.le z hz
       ·exact HW.out.there)
      have := HCard.out
      have := HMm.out
      omega)
     go_wp2_with (go_at_call 97; refine (ih q n wr HCm.out HW.out.bound HQ.out HRr.out).mono ?_; rintro e w2 ⟨q2, rfl, hw2, hq2, hg2⟩; have HW2 := Lib.hid hw2; have HQ2 := Lib.hid hq2; have HG2 := Lib.hid hg2; clear hw2 hq2 hg2 d0 d1)
     go_roundw
     case rel => exact ⟨j + 1, q2, by go_num, by omega, Lib.hid (HW.out.step HO.out HXb.out HNn.out HW2.out), HQ2, Lib.hid (HG.out.trans HG2.out)⟩
     case measure => simp [intOf]; omega
    ·go_wp2_with fail
     go_end0
     have e : j = x.next.length := by omega
     subst e
     exact ⟨q, rfl, HW.out.done HXb.out, HQ.out, HG.out⟩
/-- The memory of graph.reached where its walk begins. -/
theorem reached_first {w : World} {g : GraphP} {xv : GVals} {wo : Int} (hg : GraphV w w.heap.size xv g) :
  ∃ w1, w1 = (((((w.alloc (.cells (gbox g xv) 28)).alloc (.cells #[.int .i64 wo] 3)).alloc (.map #[] 0)).alloc (.cells #[.map (some (w.heap.size + 1 + 1))] 76)).alloc
   (.cells #[.func (.func 97) #[] #[.pointer (some ⟨w.heap.size, 0, none⟩), .pointer (some ⟨w.heap.size + 1, 0, none⟩), .pointer (some ⟨w.heap.size + 1 + 1 + 1, 0, none⟩), .pointer (some ⟨w.heap.size + 1 + 1 + 1 + 1, 0, none⟩)]] 123)) ∧
   RchMem g xv w.heap.size w.heap.size (w.heap.size + 1) (w.heap.size + 1 + 1 + 1) (w.heap.size + 1 + 1 + 1 + 1) (w.heap.size + 1 + 1) wo w1 ∧ SetM w1 (w.heap.size + 1 + 1) ISet.empty ∧ Below w.heap.size w w1 := by
 have hb : Below w.heap.size w (((((w.alloc (.cells (gbox g xv) 28)).alloc (.cells #[.int .i64 wo] 3)).alloc (.map #[] 0)).alloc (.cells #[.map (some (w.heap.size + 1 + 1))] 76)).alloc
   (.cells #[.func (.func 97) #[] #[.pointer (some ⟨w.heap.size, 0, none⟩), .pointer (some ⟨w.heap.size + 1, 0, none⟩), .pointer (some ⟨w.heap.size + 1 + 1 + 1, 0, none⟩), .pointer (some ⟨w.heap.size + 1 + 1 + 1 + 1, 0, none⟩)]] 123)) :=
  (((((Below.refl _ _).alloc (Nat.le_refl _) _).alloc (by simp) _).alloc (by simp; omega) _).alloc (by simp; omega) _).alloc (by simp; omega) _
 refine ⟨_, rfl, ⟨⟨hg.keep (Same.of_below hb), hb.size, ((((Blk.new w _ _).alloc _).alloc _).alloc _).alloc _⟩, ?_, ?_, ?_⟩, ?_, hb⟩
 ·have := (((Blk.new (w.alloc (.cells (gbox g xv) 28)) 3 #[.int .i64 wo]).alloc (.map #[] 0)).alloc (.cells #[.map (some (w.heap.size + 1 + 1))] 76)).alloc (.cells #[.func (.func 97) #[] #[.pointer (some ⟨w.heap.size, 0, none⟩), .pointer (some ⟨w.heap.size + 1, 0, none⟩), .pointer (some ⟨w.heap.size + 1 + 1 + 1, 0, none⟩), .pointer (some ⟨w.heap.size + 1 + 1 + 1 + 1, 0, none⟩)]] 123)
  simpa using this
 ·have := (Blk.new (((w.alloc (.cells (gbox g xv) 28)).alloc (.cells #[.int .i64 wo] 3)).alloc (.map #[] 0)) 76 #[.map (some (w.heap.size + 1 + 1))]).alloc (.cells #[.func (.func 97) #[] #[.pointer (some ⟨w.heap.size, 0, none⟩), .pointer (some ⟨w.heap.size + 1, 0, none⟩), .pointer (some ⟨w.heap.size + 1 + 1 + 1, 0, none⟩), .pointer (some ⟨w.heap.size + 1 + 1 + 1 + 1, 0, none⟩)]] 123)
  simpa using this
 ·have := Blk.new ((((w.alloc (.cells (gbox g xv) 28)).alloc (.cells #[.int .i64 wo] 3)).alloc (.map #[] 0)).alloc (.cells #[.map (some (w.heap.size + 1 + 1))] 76)) 123 #[.func (.func 97) #[] #[.pointer (some ⟨w.heap.size, 0, none⟩), .pointer (some ⟨w.heap.size + 1, 0, none⟩), .pointer (some ⟨w.heap.size + 1 + 1 + 1, 0, none⟩), .pointer (some ⟨w.heap.size + 1 + 1 + 1 + 1, 0, none⟩)]]
  simpa using this
 ·have := ((IMap.made ((w.alloc (.cells (gbox g xv) 28)).alloc (.cells #[.int .i64 wo] 3))).alloc (.cells #[.map (some (w.heap.size + 1 + 1))] 76)).alloc (.cells #[.func (.func 97) #[] #[.pointer (some ⟨w.heap.size, 0, none⟩), .pointer (some ⟨w.heap.size + 1, 0, none⟩), .pointer (some ⟨w.heap.size + 1 + 1 + 1, 0, none⟩), .pointer (some ⟨w.heap.size + 1 + 1 + 1 + 1, 0, none⟩)]] 123)
  unfold SetM
  rw [setF_empty]
  simpa using this
def ReachedIs (g : GraphP) (wo : Int) (w : World) (e : Ending) (w' : World) : Prop := ∃ (q : ISet) (r : Nat), e = .returned (.map (some r)) ∧ SetM w' r q ∧ (∀ z, q z = true ↔ Reach g wo 0 z) ∧ Below w.heap.size w w'
set_option maxRecDepth 100000 in
set_option maxHeartbeats 4000000 in
theorem reached_any (w : World) (g : GraphP) (xv : GVals) (wo : Int) (hs : Small g) (hg : GraphV w w.heap.size xv g) : Calls Tryz.prog 49 #[gval g xv, .int .i64 wo] w (ReachedIs g wo w) := by
 have hmm := @run_makeMap Tryz.prog
 obtain ⟨vn, vb, vs⟩ := xv
 have HG := Lib.hid hg
 obtain ⟨hn, hb, _⟩ := hg
 simp only at hn hb
 obtain ⟨Ab, cb, rfl, _, _, _⟩ := hb
 obtain ⟨An, cn, rfl, _, _, _⟩ := hn
 unfold gval
 go_enter Tryz.func49, Tryz.ntmps49
 go_upto_region 4 with fail
 obtain ⟨w1, hw1, hr1, hs1, hb1⟩ := reached_first (wo := wo) HG.out
 unfold gbox at hw1
 simp only at hw1
 rw [← hw1]
 have HR1 := Lib.hid hr1; have HS1 := Lib.hid hs1; have HB1 := Lib.hid hb1
 obtain ⟨f0, f1, f2, f3⟩ := hr1.cells
 simp only at f0
 clear hw1 hr1 hs1 hb1 hmm
 go_wp2_with (go_at_call 97; refine (walk_any g ⟨.slice An g.nodes.length cn, .slice Ab g.blocks.length cb, vs⟩ w.heap.size w.heap.size (w.heap.size + 1) (w.heap.size + 1 + 1 + 1) (w.heap.size + 1 + 1 + 1 + 1) (w.heap.size + 1 + 1) wo hs _ ISet.empty 0 w1 (Nat.le_refl _) (empty_bounded _) HS1.out HR1.out).mono ?_; rintro e w2 ⟨q, rfl, hw2, hs2, hg2⟩; have HW2 := Lib.hid hw2; have HS2 := Lib.hid hs2; have HG2 := Lib.hid hg2; have f4 := (HR1.out.turn HS1.out hs2 hg2).cells.2.2.1; clear hw2 hs2 hg2 f0 f1 f2 f3)
 go_ret
 exact ⟨q, _, rfl, HS2.out, HW2.out.all, HB1.out.grown HG2.out HB1.out.size (fun k e => by injection e with e; omega)⟩
end Go.Proofs.YtkmfdiboekoioaaGreat

/- The walk of alloc.Check. Conditions: a graph that is small. -/
namespace Go.Proofs.YtkmfdiboekoioaaGreat
open Go.RowKit

theorem neg_any (w : World) (x : Int) (t : Bool) (ht : t = true ↔ x < 0) : Calls Tryz.prog 66 #[.int .i64 x] w (fun e w' => e = .returned (.bool t) ∧ w' = w) := by
 by_cases h : x < 0
 ·obtain rfl : t = true := ht.2 h
  clear ht
  go_enter Tryz.func66, Tryz.ntmps66
  go_wp2_with fail
  go_ret
  exact ⟨by simp [h], rfl⟩
 ·obtain rfl : t = false := Bool.eq_false_iff.2 fun e => h (ht.1 e)
  clear ht
  go_enter Tryz.func66, Tryz.ntmps66
  go_wp2_with fail
  go_ret
  exact ⟨by simp, rfl⟩

theorem indexNeg_any (w : World) (v : Value) (l : List Int) (hl : IntsV w w.heap.size v l) :
  Calls Tryz.prog 115 #[v, .func (.func 66) #[] #[]] w (fun e w' => (∃ k : Int, e = .returned (.int .i64 k) ∧ (0 ≤ k ↔ ∃ x ∈ l, x < 0) ∧ -1 ≤ k) ∧ w' = w) := by
 obtain ⟨A, c, rfl, _hc, hlc, hl⟩ := hl
 have hlim : l.length ≤ 17592186044416 := by unfold lim at hlc; omega
 have HW := Lib.hid hl; clear hl hlc
 go_enter Tryz.func115, Tryz.ntmps115
 go_wp2_with fail
 go_loopw [8] (fun i wr => ∃ k : Nat, k ≤ l.length ∧ i = .int .i64 k ∧ wr = w ∧ ∀ x ∈ l.take k, 0 ≤ x) (fun i _ => l.length - (intOf i).toNat)
 case atStart => exact ⟨0, Nat.zero_le _, rfl, rfl, by simp⟩
 case round =>
  obtain ⟨k, hk, rfl, rfl, hno⟩ := hrel
  have HNo := Lib.hid hno; clear hno
  by_cases hlt : k < l.length
  ·obtain ⟨b, off, rfl, hbB, hp⟩ := HW.out (by omega)
   obtain ⟨y, hy⟩ := getE hlt
   have f0 := hp k y hy
   have HY := Lib.hid hy
   clear hp HW hy
   by_cases hxy : y < 0
   ·have HXY := Lib.hid hxy; clear hxy
    go_wp2_with (go_at_call 66; refine (neg_any _ y true ⟨fun _ => HXY.out, fun _ => rfl⟩).mono ?_; rintro e w' ⟨rfl, hw'⟩; have hw2 := hw'.symm; subst hw2)
    go_ret
    exact ⟨⟨k, rfl, ⟨fun _ => ⟨y, List.mem_of_getElem? HY.out, HXY.out⟩, fun _ => by omega⟩, by omega⟩, rfl⟩
   ·have HXY := Lib.hid (Int.not_lt.1 hxy); clear hxy
    go_wp2_with (go_at_call 66; refine (neg_any _ y false ⟨(fun h => by cases h), fun h => absurd h (Int.not_lt.2 HXY.out)⟩).mono ?_; rintro e w' ⟨rfl, hw'⟩; have hw2 := hw'.symm; subst hw2)
    go_roundw
    case rel => exact ⟨k + 1, by omega, by go_num, (by first | rfl | trivial), fun x hx => by
     rw [List.take_add_one, HY.out] at hx
     rcases List.mem_append.1 hx with hx | hx
     ·exact HNo.out x hx
     ·simp only [Option.toList_some, List.mem_singleton] at hx; subst hx; exact HXY.out⟩
    case measure => simp [intOf]; omega
  ·go_wp2_with fail
   go_ret
   refine ⟨⟨-1, rfl, ⟨fun h => by omega, fun ⟨x, hx, h⟩ => ?_⟩, by omega⟩, rfl⟩
   exact absurd h (Int.not_lt.2 <| HNo.out x (by rw [List.take_of_length_le (by omega)]; exact hx))

theorem containsNeg_any (w : World) (v : Value) (l : List Int) (hl : IntsV w w.heap.size v l) (t : Bool) (ht : t = true ↔ ∃ x ∈ l, x < 0) :
  Calls Tryz.prog 65 #[v, .func (.func 66) #[] #[]] w (fun e w' => e = .returned (.bool t) ∧ w' = w) := by
 obtain ⟨A, c, rfl, _hc, hlc, _⟩ := id hl
 have HL := Lib.hid hl; clear hl hlc
 by_cases hx : ∃ x ∈ l, x < 0
 ·obtain rfl : t = true := ht.2 hx
  have HX := Lib.hid hx; clear hx ht
  go_enter Tryz.func65, Tryz.ntmps65
  go_wp2_with (first | (go_at_call 115; refine (indexNeg_any w _ l HL.out).mono ?_; rintro e w' ⟨⟨k, rfl, hk, h1⟩, rfl⟩; have hk0 : 0 ≤ k := hk.2 HX.out; clear hk) | fail)
  go_ret
  exact ⟨by simp [hk0], rfl⟩
 ·obtain rfl : t = false := Bool.eq_false_iff.2 fun h => hx (ht.1 h)
  have HX := Lib.hid hx; clear hx ht
  go_enter Tryz.func65, Tryz.ntmps65
  go_wp2_with (first | (go_at_call 115; refine (indexNeg_any w _ l HL.out).mono ?_; rintro e w' ⟨⟨k, rfl, hk, h1⟩, rfl⟩; obtain rfl : k = -1 := (by have : ¬ 0 ≤ k := fun h => HX.out (hk.1 h); omega); clear hk h1) | fail)
  go_ret
  exact ⟨rfl, rfl⟩

/-- No two that meet have one register. -/
def Apart (R : Meets) (N : Nat) (rs : List Int) : Prop := ∀ n z : Nat, n < N → R (n : Int) (z : Int) = true → z ≠ n → rs.getD z 0 ≠ rs.getD n 0
def RegsOk (N : Nat) (rs : List Int) : Prop := rs.length = N ∧ ∀ r ∈ rs, 0 ≤ r
def CheckIs (g : GraphP) (rs : List Int) (w : World) (e : Ending) (w' : World) : Prop :=
 ∃ b : Bool, e = .returned (.bool b) ∧ Below w.heap.size w w' ∧ ((b = false ∧ ¬ RegsOk g.nodes.length rs) ∨ (RegsOk g.nodes.length rs ∧ ∃ I O, LiveIs g I O ∧ (b = true ↔ Apart (meetAll g I O) g.nodes.length rs)))
def ApartTo (R : Meets) (k : Nat) (rs : List Int) : Prop := ∀ n z : Nat, n < k → R (n : Int) (z : Int) = true → z ≠ n → rs.getD z 0 ≠ rs.getD n 0

theorem MRow.grown {w w' : World} {bo it : Nat} {ro : List Nat} {R : Meets} (h : MRow w bo ro R) (hg : w.grownBy w' (some it)) (h1 : it ≠ bo) (h2 : it ∉ ro) : MRow w' bo ro R :=
 ⟨h.row.grown hg (fun e => h1 (by injection e with e; exact e.symm)), h.one, fun j r hj => IMap.grown (h.maps j r hj) hg (fun e => h2 (by injection e with e; exact e ▸ List.mem_of_getElem? hj))⟩
theorem MRow.drewN {w : World} {bo : Nat} {ro : List Nat} {R : Meets} (h : MRow w bo ro R) (n : Nat) : MRow (w.drewN n) bo ro R := ⟨h.row, h.one, h.maps⟩
theorem Iter.drewN {w : World} {it r : Nat} {m : FMap} {left : Int → Bool} {c : Nat} (h : Iter w it r m left c) (n : Nat) : Iter (w.drewN n) it r m left c := h.same rfl rfl
theorem below_drewN {B : Nat} {a w : World} (h : Below B a w) (n : Nat) : Below B a (w.drewN n) := ⟨h.os, h.tape, h.output, h.size, h.block⟩
/-- What is so in the loop over those that a node meets. -/
structure ChkMem (w : World) (g : GraphP) (R : Meets) (bo it r k : Nat) (ro : List Nat) (rs : List Int) (left : Int → Bool) (c : Nat) (wr : World) : Prop where
 it_ : Iter wr it r (setF (R (k : Int))) left c
 rows : MRow wr bo ro R
 low : Below w.heap.size w wr
 sofar : ∀ z : Nat, R (k : Int) (z : Int) = true → left z = false → z ≠ k → rs.getD z 0 ≠ rs.getD k 0
theorem ne_left' {R : Meets} {k z u : Nat} {left : Int → Bool} {p : Nat → Prop} (h : ∀ u : Nat, R (k : Int) (u : Int) = true → left u = false → u ≠ k → p u) (h1 : R (k : Int) (u : Int) = true) (h2 : (left u && !((u : Int) == (z : Int))) = false) (h3 : u ≠ k) (hz : u ≠ z) : p u := by
 have e : ((u : Int) == (z : Int)) = false := by simp; omega
 rw [e] at h2
 exact h u h1 (by simpa using h2) h3
set_option maxRecDepth 100000 in
set_option maxHeartbeats 8000000 in
theorem check_any (w : World) (xv : GVals) (g : GraphP) (v : Value) (rs : List Int) (hg : GraphV w w.heap.size xv g) (hs : Small g) (hl : IntsV w w.heap.size v rs) : Calls Tryz.prog 29 #[gval g xv, v] w (CheckIs g rs w) := by
 obtain ⟨vn, vb, vs⟩ := xv
 have HG := Lib.hid hg
 obtain ⟨hn, _, _⟩ := hg
 simp only at hn
 obtain ⟨An, cn, rfl, hcn, hln, hn⟩ := hn
 clear hn
 obtain ⟨l1, l2, l3⟩ := hs.lens
 have HL := Lib.hid hl
 obtain ⟨Ar, cr, rfl, _, hlr, _⟩ := hl
 have hlr2 : rs.length ≤ 17592186044416 := by unfold lim at hlr; omega
 unfold gval
 by_cases hlen : rs.length = g.nodes.length
 ·have hnf : ((rs.length : Int) != (g.nodes.length : Int)) = false := by simp [hlen]
  by_cases hneg : ∃ x ∈ rs, x < 0
  ·have HN := Lib.hid hneg; have HE := Lib.hid hlen
   clear hneg hlen
   go_enter Tryz.func29, Tryz.ntmps29
   go_wp2_with (go_at_call 65; refine (containsNeg_any _ _ rs (HL.out.later ((Below.refl _ _).alloc (Nat.le_refl _) _) (Nat.le_refl _)) true ⟨fun _ => HN.out, fun _ => rfl⟩).mono ?_; rintro e w' ⟨rfl, rfl⟩)
   go_ret
   refine ⟨false, rfl, (Below.refl _ _).alloc (Nat.le_refl _) _, .inl ⟨rfl, fun h => ?_⟩⟩
   obtain ⟨x, hx, h0⟩ := HN.out
   have := h.2 x hx
   omega
  ·have HN := Lib.hid hneg; have HE := Lib.hid hlen
   clear hneg hlen
   have HEq := hnf
   go_enter Tryz.func29, Tryz.ntmps29
   go_wp2_with (first | (go_at_call 65; refine (containsNeg_any _ _ rs (HL.out.later ((Below.refl _ _).alloc (Nat.le_refl _) _) (Nat.le_refl _)) false ⟨(fun h => by cases h), fun h => absurd h HN.out⟩).mono ?_; rintro e w' ⟨rfl, rfl⟩) | (go_at_call 31; refine (meets_any _ ⟨.slice An g.nodes.length cn, vb, vs⟩ g (HG.out.later ((Below.refl _ _).alloc (Nat.le_refl _) _) (Nat.le_refl _)) hs).mono ?_; rintro e w1 ⟨bo, ro, I, O, rfl, hrl, hL, hr1, hb1⟩; have HRl := Lib.hid hrl; have HLv := Lib.hid hL; have HR1 := Lib.hid hr1; have HB1 := Lib.hid (((Below.refl w.heap.size w).alloc (Nat.le_refl _) _).trans (hb1.mono (by simp))); clear hrl hL hr1 hb1))
   have HIn := Lib.hid (meetIn_all HLv.out.boundI (O := O) g.blocks.length)
   have HRg : Hid (RegsOk g.nodes.length rs) := Lib.hid ⟨HE.out, fun r hr => Int.not_lt.1 fun h => HN.out ⟨r, hr, h⟩⟩
   obtain ⟨R, hR⟩ : ∃ R : Meets, R = meetAll g I O := ⟨_, rfl⟩
   have HRd := Lib.hid hR
   have HR1' : Hid (MRow w1 bo ro R) := Lib.hid (by rw [hR]; exact HR1.out)
   have HIn' : Hid (MeetIn g.nodes.length R) := Lib.hid (by rw [hR]; exact HIn.out)
   clear hR HR1 HIn
   have hz1 := HB1.out.size
   go_loopw [21] (fun i wr => ∃ k : Nat, i = .int .i64 k ∧ k ≤ g.nodes.length ∧ Hid (MRow wr bo ro R) ∧ Hid (Below w.heap.size w wr) ∧ Hid (ApartTo R k rs)) (fun i _ => g.nodes.length - (intOf i).toNat)
   case atStart => exact ⟨0, rfl, Nat.zero_le _, HR1', HB1, Lib.hid (fun n z h => by omega)⟩
   case round =>
    obtain ⟨k, rfl, hk, HM, HB, HA⟩ := hrel
    obtain ⟨wp, rfl⟩ : ∃ wp : World, wp = wr := ⟨_, rfl⟩
    by_cases hlt : k < g.nodes.length
    ·obtain ⟨r, hr⟩ := getE (l := ro) (k := k) (by have := HRl.out; omega)
     have HRk := Lib.hid hr
     have f0 := HM.out.cellAt hr
     obtain ⟨cnt, w2, hrun, hit, hg2, hz2⟩ := IMap.range (P := Tryz.prog) (HM.out.maps k r hr) Tryz.underlying76
     have H0 : Hid (ChkMem w g R bo wp.heap.size r k ro rs (fun x => (setF (R (k : Int)) x).isSome) cnt w2) := Lib.hid ⟨hit, HM.out.later ⟨hg2.os, hg2.tape, hg2.output, hg2.size, fun j hj => hg2.block j hj (by simp)⟩, HB.out.grown hg2 HB.out.size (by simp), fun z h1 h2 => by rw [setF_some, h1] at h2; cases h2⟩
     have HIb : Hid (wp.heap.size ≠ bo ∧ wp.heap.size ∉ ro) := Lib.hid ⟨Nat.ne_of_gt HM.out.row.lt, fun hm => by obtain ⟨p, hp⟩ := HM.out.isMap hm; exact Nat.lt_irrefl _ hp.lt⟩
     have HZp : Hid (w.heap.size ≤ wp.heap.size) := Lib.hid HB.out.size
     clear hr hit hg2 hz2
     go_wp2_with fail
     clear hrun f0
     go_loopg [7] cnt (fun c _ wr => ∃ left, Hid (ChkMem w g R bo wp.heap.size r k ro rs left c wr))
     case atStart => exact ⟨_, H0⟩
     case round =>
      obtain ⟨left, HC⟩ := hrel
      rcases Iter.next (P := Tryz.prog) HC.out.it_ 0 with ⟨hdone, hrun⟩ | ⟨x, y, w3, cnt', hlx, hmx, hrun, hit3, hlt3, hg3, hs3, hent⟩
      ·have HD := Lib.hid hdone
       clear hdone
       go_wp2_with fail
       go_roundw
       case rel =>
        refine ⟨k + 1, by go_num, by omega, Lib.hid HC.out.rows, Lib.hid HC.out.low, Lib.hid (fun n z hn h1 h2 => ?_)⟩
        by_cases e : n = k
        ·subst e; exact HC.out.sofar z h1 (HD.out _) h2
        ·exact HA.out n z (by omega) h1 h2
       case measure => simp [intOf]; omega
      ·obtain ⟨hpx, rfl⟩ := setF_val hmx
       obtain ⟨_, hx0, hx1⟩ := HIn'.out _ _ hpx
       obtain ⟨z, rfl⟩ := Int.eq_ofNat_of_zero_le hx0
       have hzN : z < g.nodes.length := by omega
       have hzr : z < rs.length := by have := HE.out; omega
       have hkr : k < rs.length := by have := HE.out; omega
       obtain ⟨rz, hrz⟩ := getE hzr
       obtain ⟨rk, hrk⟩ := getE hkr
       have hlow3 := HC.out.low.grown hg3 HC.out.low.size (fun j e => by injection e with e; have := HZp.out; omega)
       obtain ⟨bb, off, rfl, hbB, hp⟩ := (HL.out.keep (Same.of_below hlow3)).cells hzr
       have f1 := hp z rz hrz
       have f2 := hp k rk hrk
       have HLow3 := Lib.hid hlow3; have HIt3 := Lib.hid hit3; have HRz := Lib.hid hrz; have HRkk := Lib.hid hrk; have HPx := Lib.hid hpx
       have HRows3 := Lib.hid (HC.out.rows.grown hg3 HIb.out.1 HIb.out.2)
       have HLt3 := Lib.hid hlt3
       clear hlow3 hit3 hrz hrk hpx hp hmx hlx hx0 hx1 hs3 hg3 hlt3
       by_cases hzk : z = k
       ·subst hzk
        clear f2
        go_upto_region 9 with fail
        go_quiet (fail)
        go_wp2_with fail
        go_roundg cnt'
        case measure => exact HLt3.out
        case rel => exact ⟨_, Lib.hid ⟨HIt3.out.drewN _, HRows3.out.drewN _, below_drewN HLow3.out _, fun u h1 h2 h3 => ne_left' (p := fun u => rs.getD u 0 ≠ rs.getD z 0) HC.out.sofar h1 h2 h3 h3⟩⟩
       ·have hb : ((z : Int) != (k : Int)) = true := by simp; omega
        have HZK := Lib.hid hzk
        clear hzk
        by_cases hrr : rz = rk
        ·subst hrr
         go_upto_region 9 with fail
         go_quiet (fail)
         go_wp2_with fail
         go_ret
         refine ⟨false, rfl, below_drewN HLow3.out _, .inr ⟨HRg.out, I, O, HLv.out, ⟨(fun h => by cases h), fun h => ?_⟩⟩⟩
         rw [← HRd.out] at h
         exact absurd (by simp [HRz.out, HRkk.out]) (h k z hlt HPx.out HZK.out)
        ·have hb2 : (rz == rk) = false := by simp [hrr]
         have HRR := Lib.hid hrr
         clear hrr
         go_upto_region 9 with fail
         go_quiet (fail)
         go_wp2_with fail
         go_roundg cnt'
         case measure => exact HLt3.out
         case rel =>
          refine ⟨_, Lib.hid ⟨HIt3.out.drewN _, HRows3.out.drewN _, below_drewN HLow3.out _, fun u h1 h2 h3 => ?_⟩⟩
          by_cases e : u = z
          ·subst e
           simp [HRz.out, HRkk.out]
           exact HRR.out
          ·have : ((u : Int) == (z : Int)) = false := by simp; omega
           exact HC.out.sofar u h1 (by simpa [this] using h2) h3
    ·go_wp2_with fail
     go_ret
     refine ⟨true, rfl, HB.out, .inr ⟨HRg.out, I, O, HLv.out, fun _ => ?_, fun _ => rfl⟩⟩
     rw [← HRd.out]
     exact fun n z hn => HA.out n z (by omega)
 ·have HE := Lib.hid hlen
  have hne : ((rs.length : Int) != (g.nodes.length : Int)) = true := by simp; omega
  clear hlen
  go_enter Tryz.func29, Tryz.ntmps29
  go_wp2_with fail
  go_ret
  exact ⟨false, rfl, (Below.refl _ _).alloc (Nat.le_refl _) _, .inl ⟨rfl, fun h => HE.out h.1⟩⟩
end Go.Proofs.YtkmfdiboekoioaaGreat
