/- The walk of alloc.sound: are all numbers some that there are? Conditions: a graph that is small. -/
import Derived.Test.YtkmfdiboekoioaaGreatCOrder2
set_option linter.unusedSimpArgs false
set_option linter.unusedVariables false
namespace Go.Proofs.YtkmfdiboekoioaaGreat
open Go.RowKit

/-- Is one not from lo to below N? -/
def bad (lo : Int) (N : Nat) (l : List Int) : Bool := l.any (fun x => !decide (lo ≤ x ∧ x < (N : Int)))
theorem bad_iff (lo : Int) (N : Nat) (l : List Int) : bad lo N l = true ↔ ∃ x ∈ l, ¬ (lo ≤ x ∧ x < (N : Int)) := by
 unfold bad; simp only [List.any_eq_true, Bool.not_eq_true', decide_eq_false_iff_not]
def off (lo : Int) (N : Nat) (x : Int) : Bool := decide (lo ≤ x ∧ x < (N : Int))
theorem off_iff (lo : Int) (N : Nat) (x : Int) : off lo N x = true ↔ lo ≤ x ∧ x < (N : Int) := by unfold off; exact decide_eq_true_iff
def nodeOk (g : GraphP) (x : NodeP) : Bool := !bad 0 g.nodes.length x.args && off (-1) g.states.length x.state
def blockOk (g : GraphP) (x : BlockP) : Bool := !bad 0 g.nodes.length x.nodes && !bad 0 g.nodes.length x.args && !bad 0 g.blocks.length x.next && !bad 0 g.blocks.length x.ahead && off (-1) g.states.length x.state
def stateOk (g : GraphP) (x : StateP) : Bool := !bad (-1) g.nodes.length x.slots
def soundB (g : GraphP) : Bool := g.nodes.all (nodeOk g) && g.blocks.all (blockOk g) && g.states.all (stateOk g)

/-- The memory of alloc.sound. -/
structure SMem (w : World) (g : GraphP) (xv : GVals) (wr : World) : Prop where
 gr : GCtx wr w.heap.size w.heap.size xv g
 sl : Blk wr (w.heap.size + 1) 90 #[.func (.func 68) #[] #[.pointer (some ⟨w.heap.size, 0, none⟩)]]
 mi : Blk wr (w.heap.size + 1 + 1) 118 #[.func (.func 69) #[] #[]]
 low : Below w.heap.size w wr
section
variable {w : World} {g : GraphP} {xv : GVals} {wr w2 : World}
theorem SMem.below (h : SMem w g xv wr) (hb : Below wr.heap.size wr w2) : SMem w g xv w2 := ⟨h.gr.below hb, h.sl.below hb h.sl.lt, h.mi.below hb h.mi.lt, h.low.trans (hb.mono h.low.size)⟩
theorem SMem.alloc (h : SMem w g xv wr) (o : Obj) : SMem w g xv (wr.alloc o) := h.below ((Below.refl _ _).alloc (Nat.le_refl _) _)
theorem SMem.cells (h : SMem w g xv wr) : wr.cell? ⟨w.heap.size, 3, none⟩ = some xv.vn ∧ wr.cell? ⟨w.heap.size, 4, none⟩ = some xv.vb ∧ wr.cell? ⟨w.heap.size, 5, none⟩ = some xv.vs ∧
  wr.cell? ⟨w.heap.size + 1, 0, none⟩ = some (.func (.func 68) #[] #[.pointer (some ⟨w.heap.size, 0, none⟩)]) ∧ wr.cell? ⟨w.heap.size + 1 + 1, 0, none⟩ = some (.func (.func 69) #[] #[]) :=
 ⟨h.gr.cells.2.2.2.1, h.gr.cells.2.2.2.2.1, h.gr.cells.2.2.2.2.2, h.sl.cell 0, h.mi.cell 0⟩
end
theorem sound_first {w : World} {g : GraphP} {xv : GVals} (hg : GraphV w w.heap.size xv g) :
  ∃ w3, w3 = ((w.alloc (.cells (gbox g xv) 28)).alloc (.cells #[.func (.func 68) #[] #[.pointer (some ⟨w.heap.size, 0, none⟩)]] 90)).alloc (.cells #[.func (.func 69) #[] #[]] 118) ∧ SMem w g xv w3 := by
 have hb : Below w.heap.size w (((w.alloc (.cells (gbox g xv) 28)).alloc (.cells #[.func (.func 68) #[] #[.pointer (some ⟨w.heap.size, 0, none⟩)]] 90)).alloc (.cells #[.func (.func 69) #[] #[]] 118)) :=
  (((Below.refl _ _).alloc (Nat.le_refl _) _).alloc (by simp) _).alloc (by simp; omega) _
 refine ⟨_, rfl, ⟨hg.keep (Same.of_below hb), hb.size, ((Blk.new w _ _).alloc _).alloc _⟩, ?_, ?_, hb⟩
 ·have := (Blk.new (w.alloc (.cells (gbox g xv) 28)) 90 #[.func (.func 68) #[] #[.pointer (some ⟨w.heap.size, 0, none⟩)]]).alloc (.cells #[.func (.func 69) #[] #[]] 118)
  simpa using this
 ·have := Blk.new ((w.alloc (.cells (gbox g xv) 28)).alloc (.cells #[.func (.func 68) #[] #[.pointer (some ⟨w.heap.size, 0, none⟩)]] 90)) 118 #[.func (.func 69) #[] #[]]
  simpa using this

/-- alloc.sound's last function: is a state bad? -/
theorem stateMiss_any (w0 w : World) (g : GraphP) (xv : GVals) (pc : Int) (v : Value) (l : List Int) (An : Option Addr) (cn : Nat) (hm : SMem w0 g xv w) (hvn : xv.vn = .slice An g.nodes.length cn) (hl : IntsV w w.heap.size v l) :
  Calls Tryz.prog 74 #[.agg #[.int .i64 pc, v], .pointer (some ⟨w0.heap.size + 1 + 1, 0, none⟩), .pointer (some ⟨w0.heap.size + 1, 0, none⟩)] w (fun e w' => e = .returned (.bool (bad (-1) g.nodes.length l)) ∧ Below w.heap.size w w') := by
 have hm2 := hm.alloc (.cells #[.int .i64 pc, v] 108)
 have hl2 := hl.later ((Below.refl w.heap.size w).alloc (Nat.le_refl _) (.cells #[.int .i64 pc, v] 108)) (Nat.le_refl _)
 obtain ⟨f3, f4, f5, f6, f7⟩ := hm2.cells
 rw [hvn] at f3
 have H3 := Lib.hid f3; have HL := Lib.hid hl2
 obtain ⟨A, c, rfl, _⟩ := hl
 obtain ⟨b, hb⟩ : ∃ b, b = bad (-1) g.nodes.length l := ⟨_, rfl⟩
 have HB := Lib.hid hb
 rw [← hb]
 clear f3 f4 f5 hm hm2 hl2 hvn hb
 go_enter Tryz.func74, Tryz.ntmps74
 go_wp2_with (go_at_call 69; refine (isSlot_miss _ w0.heap.size _ l An g.nodes.length cn HL.out H3.out b (by rw [HB.out]; exact bad_iff _ _ _)).mono ?_; rintro e w2 ⟨rfl, hb2⟩; have HB2 := Lib.hid hb2; clear hb2)
 go_ret
 exact ⟨rfl, ((Below.refl _ _).alloc (Nat.le_refl _) _).trans (HB2.out.mono (by simp))⟩

set_option maxRecDepth 100000 in
theorem stateIndex_any (w0 w : World) (g : GraphP) (xv : GVals) (v : Value) (l : List StateP) (An : Option Addr) (cn : Nat) (hm : SMem w0 g xv w) (hvn : xv.vn = .slice An g.nodes.length cn) (hl : StatesV w w.heap.size v l) :
  Calls Tryz.prog 116 #[v, .func (.func 74) #[] #[.pointer (some ⟨w0.heap.size + 1 + 1, 0, none⟩), .pointer (some ⟨w0.heap.size + 1, 0, none⟩)]] w (fun e w' => (∃ k : Int, e = .returned (.int .i64 k) ∧ (0 ≤ k ↔ ∃ x ∈ l, stateOk g x = false) ∧ -1 ≤ k) ∧ Below w.heap.size w w') := by
 have HL := Lib.hid hl; have HM := Lib.hid hm; have HV := Lib.hid hvn
 obtain ⟨A, c, rfl, _hc, hlc, _⟩ := hl
 have hlim : l.length ≤ 17592186044416 := by unfold lim at hlc; omega
 clear hm hvn hlc
 go_enter Tryz.func116, Tryz.ntmps116
 go_wp2_with fail
 go_loopw [8] (fun i wr => ∃ k : Nat, k ≤ l.length ∧ i = .int .i64 k ∧ Hid (Below w.heap.size w wr) ∧ Hid (∀ x ∈ l.take k, stateOk g x = true)) (fun i _ => l.length - (intOf i).toNat)
 case atStart => exact ⟨0, Nat.zero_le _, rfl, Lib.hid (Below.refl _ _), Lib.hid (by simp)⟩
 case round =>
  obtain ⟨k, hk, rfl, HB, HNo⟩ := hrel
  by_cases hlt : k < l.length
  ·obtain ⟨A', c', en, _, _, hp⟩ := StatesV.keep HL.out (Same.of_below HB.out)
   injection en with en1 en2 en3
   subst en1
   obtain ⟨b, off, rfl, hbB, hp⟩ := hp (by omega)
   obtain ⟨y, hy⟩ := getE hlt
   obtain ⟨g0, vy, g1, hvy⟩ := hp k y hy
   have HVy := Lib.hid (hvy.mono HB.out.size)
   obtain ⟨Ay, cy, rfl, _⟩ := hvy
   have HY := Lib.hid hy
   clear hp hy en3
   cases hbad : bad (-1) g.nodes.length y.slots
   ·have HOk : Hid (stateOk g y = true) := Lib.hid (by unfold stateOk; rw [hbad]; rfl)
    go_wp2_with (go_at_call 74; refine (stateMiss_any w0 wr g xv y.pc _ y.slots An cn (HM.out.below HB.out) HV.out HVy.out).mono ?_; rintro e w2 ⟨rfl, hb2⟩; have HB2 := Lib.hid hb2; clear hb2)
    go_roundw
    case rel => exact ⟨k + 1, by omega, by go_num, Lib.hid (HB.out.trans (HB2.out.mono HB.out.size)), Lib.hid (fun x hx => by
     rw [List.take_add_one, HY.out] at hx
     rcases List.mem_append.1 hx with hx | hx
     ·exact HNo.out x hx
     ·simp only [Option.toList_some, List.mem_singleton] at hx; subst hx; exact HOk.out)⟩
    case measure => simp [intOf]; omega
   ·have HOk : Hid (stateOk g y = false) := Lib.hid (by unfold stateOk; rw [hbad]; rfl)
    go_wp2_with (go_at_call 74; refine (stateMiss_any w0 wr g xv y.pc _ y.slots An cn (HM.out.below HB.out) HV.out HVy.out).mono ?_; rintro e w2 ⟨rfl, hb2⟩; have HB2 := Lib.hid hb2; clear hb2)
    go_ret
    exact ⟨⟨k, rfl, ⟨fun _ => ⟨y, List.mem_of_getElem? HY.out, HOk.out⟩, fun _ => by omega⟩, by omega⟩, HB.out.trans (HB2.out.mono HB.out.size)⟩
  ·go_wp2_with fail
   go_ret
   refine ⟨⟨-1, rfl, ⟨fun h => by omega, fun ⟨x, hx, h⟩ => ?_⟩, by omega⟩, HB.out⟩
   have := HNo.out x (by rw [List.take_of_length_le (by omega)]; exact hx)
   rw [this] at h; cases h
theorem all_iff_not {α : Type} (l : List α) (f : α → Bool) : (!(l.all f)) = true ↔ ∃ x ∈ l, f x = false := by
 rw [Bool.not_eq_true', ← Bool.not_eq_true, List.all_eq_true]
 constructor
 ·intro h
  exact Classical.byContradiction fun hn => h fun x hx => Classical.byContradiction fun hf => hn ⟨x, hx, by simpa using hf⟩
 ·rintro ⟨x, hx, hf⟩ h
  rw [h x hx] at hf; cases hf
theorem stateContains_any (w0 w : World) (g : GraphP) (xv : GVals) (v : Value) (l : List StateP) (An : Option Addr) (cn : Nat) (hm : SMem w0 g xv w) (hvn : xv.vn = .slice An g.nodes.length cn) (hl : StatesV w w.heap.size v l) (t : Bool) (ht : t = !(l.all (stateOk g))) :
  Calls Tryz.prog 73 #[v, .func (.func 74) #[] #[.pointer (some ⟨w0.heap.size + 1 + 1, 0, none⟩), .pointer (some ⟨w0.heap.size + 1, 0, none⟩)]] w (fun e w' => e = .returned (.bool t) ∧ Below w.heap.size w w') := by
 have hiff := all_iff_not l (stateOk g)
 rw [← ht] at hiff
 have HL := Lib.hid hl; have HM := Lib.hid hm; have HV := Lib.hid hvn
 obtain ⟨A, c, rfl, _⟩ := hl
 clear hm hvn ht
 cases t with
 | true =>
  have HX := Lib.hid (hiff.1 rfl); clear hiff
  go_enter Tryz.func73, Tryz.ntmps73
  go_wp2_with (go_at_call 116; refine (stateIndex_any w0 w g xv _ l An cn HM.out HV.out HL.out).mono ?_; rintro e w2 ⟨⟨k, rfl, hk, h1⟩, hb2⟩; have hk0 : 0 ≤ k := hk.2 HX.out; have HB2 := Lib.hid hb2; clear hk hb2)
  go_ret
  exact ⟨by simp [hk0], HB2.out⟩
 | false =>
  have HX : Hid ((∃ x ∈ l, stateOk g x = false) → False) := Lib.hid (fun h => by have := hiff.2 h; cases this)
  clear hiff
  go_enter Tryz.func73, Tryz.ntmps73
  go_wp2_with (go_at_call 116; refine (stateIndex_any w0 w g xv _ l An cn HM.out HV.out HL.out).mono ?_; rintro e w2 ⟨⟨k, rfl, hk, h1⟩, hb2⟩; have HB2 := Lib.hid hb2; obtain rfl : k = -1 := (by have : ¬ 0 ≤ k := fun h => HX.out (hk.1 h); omega); clear hk h1 hb2)
  go_ret
  exact ⟨rfl, HB2.out⟩

theorem sound_node {g : GraphP} {y : NodeP} (h : y ∈ g.nodes) (hy : nodeOk g y = false) : soundB g = false := by
 unfold soundB
 have : g.nodes.all (nodeOk g) = false := by rw [← Bool.not_eq_true, List.all_eq_true]; intro ha; rw [ha y h] at hy; cases hy
 rw [this]; rfl
theorem sound_block {g : GraphP} {y : BlockP} (h : y ∈ g.blocks) (hy : blockOk g y = false) : soundB g = false := by
 unfold soundB
 have : g.blocks.all (blockOk g) = false := by rw [← Bool.not_eq_true, List.all_eq_true]; intro ha; rw [ha y h] at hy; cases hy
 rw [this]; simp
theorem take_all {α : Type} {l : List α} {f : α → Bool} {k : Nat} {y : α} (h : ∀ x ∈ l.take k, f x = true) (hy : l[k]? = some y) (hf : f y = true) : ∀ x ∈ l.take (k + 1), f x = true := fun x hx => by
 rw [List.take_add_one, hy] at hx
 rcases List.mem_append.1 hx with hx | hx
 ·exact h x hx
 ·simp only [Option.toList_some, List.mem_singleton] at hx; subst hx; exact hf
set_option maxRecDepth 100000 in
set_option maxHeartbeats 8000000 in
theorem sound_any (w : World) (g : GraphP) (xv : GVals) (hs : Small g) (hg : GraphV w w.heap.size xv g) : Calls Tryz.prog 30 #[gval g xv] w (fun e w' => e = .returned (.bool (soundB g)) ∧ Below w.heap.size w w') := by
 obtain ⟨vn, vb, vs⟩ := xv
 have HG := Lib.hid hg
 obtain ⟨hn, hb, hst⟩ := hg
 simp only at hn hb hst
 obtain ⟨Ab, cb, rfl, _, _, _⟩ := hb
 obtain ⟨An, cn, rfl, _, _, _⟩ := hn
 obtain ⟨As, cs, rfl, _, _, _⟩ := hst
 obtain ⟨l1, l2, l3⟩ := hs.lens
 unfold gval
 go_enter Tryz.func30, Tryz.ntmps30
 go_upto_region 6 with fail
 obtain ⟨w3, hw3, hm3⟩ := sound_first HG.out
 unfold gbox at hw3
 simp only at hw3
 rw [← hw3]
 have HM3 := Lib.hid hm3
 obtain ⟨f3, f4, f5, f6, f7⟩ := hm3.cells
 simp only at f3 f4 f5
 clear hw3 hm3
 go_wp2_with fail
 clear f3 f4 f5 f6 f7
 go_loopw [19] (fun i wr => ∃ k : Nat, i = .int .i64 k ∧ k ≤ g.nodes.length ∧ Hid (SMem w g ⟨.slice An g.nodes.length cn, .slice Ab g.blocks.length cb, .slice As g.states.length cs⟩ wr) ∧ Hid (∀ x ∈ g.nodes.take k, nodeOk g x = true)) (fun i _ => g.nodes.length - (intOf i).toNat)
 case atStart => exact ⟨0, rfl, Nat.zero_le _, HM3, Lib.hid (by simp)⟩
 case round =>
  obtain ⟨k, rfl, hk, HM, HAll⟩ := hrel
  by_cases hlt : k < g.nodes.length
  ·obtain ⟨A', c', en, _, _, hp⟩ := HM.out.gr.gr.1
   simp only at en
   obtain ⟨bm, offm, rfl, hbm, hp⟩ := hp (by omega)
   injection en with en1 en2 en3
   subst en1
   obtain ⟨y, hy⟩ := getE hlt
   obtain ⟨g0, ⟨vy, g1, hvy⟩, g2, g3, g4⟩ := hp k y hy
   have hvy' := hvy.mono HM.out.gr.hB
   obtain ⟨Ay, cy, rfl, _⟩ := hvy
   have HY := Lib.hid hy
   have HMa := Lib.hid (HM.out.alloc (.cells #[.int .u8 y.op, .slice Ay y.args.length cy, .int .i64 y.N, .int .u8 y.kind, .int .i64 y.state] 68))
   have HBx := Lib.hid (Blk.new wr 68 #[.int .u8 y.op, .slice Ay y.args.length cy, .int .i64 y.N, .int .u8 y.kind, .int .i64 y.state])
   have HVy := Lib.hid (hvy'.later ((Below.refl wr.heap.size wr).alloc (Nat.le_refl _) (.cells #[.int .u8 y.op, .slice Ay y.args.length cy, .int .i64 y.N, .int .u8 y.kind, .int .i64 y.state] 68)) (Nat.le_refl _))
   obtain ⟨z3, z4, z5, z6, z7⟩ := HMa.out.cells
   simp only at z3 z4 z5
   have H3 := Lib.hid z3
   clear hp hy hvy' en3
   cases hb1 : bad 0 g.nodes.length y.args
   ·cases hb2 : off (-1) g.states.length y.state
    ·have HF : Hid (soundB g = false) := Lib.hid (sound_node (List.mem_of_getElem? HY.out) (by unfold nodeOk; rw [hb1, hb2]; rfl))
     go_wp2_with (first | (go_at_call 69; refine (isNode_miss _ w.heap.size _ y.args _ g.nodes.length cn HVy.out H3.out (bad 0 g.nodes.length y.args) (bad_iff _ _ _)).mono ?_; rintro e w2 ⟨rfl, hb2⟩; have HM2 := Lib.hid (HMa.out.below hb2); have HB2 := Lib.hid hb2; have c4 := (HBx.out.below hb2 HBx.out.lt).cell 4; have H5 := Lib.hid (show w2.cell? ⟨w.heap.size, 5, none⟩ = some (.slice As g.states.length cs) from HM2.out.cells.2.2.1); clear hb2) | (go_at_call 71; refine (isState_any w2 w.heap.size y.state As g.states.length cs H5.out (off (-1) g.states.length y.state) (off_iff _ _ _)).mono ?_; rintro e w' ⟨rfl, hw'⟩; have hw2 := hw'.symm; subst hw2))
     go_ret
     exact ⟨by rw [HF.out]; rfl, HM2.out.low⟩
    ·have HOk : Hid (nodeOk g y = true) := Lib.hid (by unfold nodeOk; rw [hb1, hb2]; rfl)
     go_wp2_with (first | (go_at_call 69; refine (isNode_miss _ w.heap.size _ y.args _ g.nodes.length cn HVy.out H3.out (bad 0 g.nodes.length y.args) (bad_iff _ _ _)).mono ?_; rintro e w2 ⟨rfl, hb2⟩; have HM2 := Lib.hid (HMa.out.below hb2); have HB2 := Lib.hid hb2; have c4 := (HBx.out.below hb2 HBx.out.lt).cell 4; have H5 := Lib.hid (show w2.cell? ⟨w.heap.size, 5, none⟩ = some (.slice As g.states.length cs) from HM2.out.cells.2.2.1); clear hb2) | (go_at_call 71; refine (isState_any w2 w.heap.size y.state As g.states.length cs H5.out (off (-1) g.states.length y.state) (off_iff _ _ _)).mono ?_; rintro e w' ⟨rfl, hw'⟩; have hw2 := hw'.symm; subst hw2))
     go_roundw
     case rel => exact ⟨k + 1, by go_num, by omega, HM2, Lib.hid (take_all HAll.out HY.out HOk.out)⟩
     case measure => simp [intOf]; omega
   ·have HF : Hid (soundB g = false) := Lib.hid (sound_node (List.mem_of_getElem? HY.out) (by unfold nodeOk; rw [hb1]; rfl))
    go_wp2_with (first | (go_at_call 69; refine (isNode_miss _ w.heap.size _ y.args _ g.nodes.length cn HVy.out H3.out (bad 0 g.nodes.length y.args) (bad_iff _ _ _)).mono ?_; rintro e w2 ⟨rfl, hb2⟩; have HM2 := Lib.hid (HMa.out.below hb2); have HB2 := Lib.hid hb2; have c4 := (HBx.out.below hb2 HBx.out.lt).cell 4; have H5 := Lib.hid (show w2.cell? ⟨w.heap.size, 5, none⟩ = some (.slice As g.states.length cs) from HM2.out.cells.2.2.1); clear hb2) | (go_at_call 71; refine (isState_any w2 w.heap.size y.state As g.states.length cs H5.out (off (-1) g.states.length y.state) (off_iff _ _ _)).mono ?_; rintro e w' ⟨rfl, hw'⟩; have hw2 := hw'.symm; subst hw2))
    go_ret
    exact ⟨by rw [HF.out]; rfl, HM2.out.low⟩
  ·have HAN : Hid (g.nodes.all (nodeOk g) = true) := Lib.hid (by rw [List.all_eq_true]; intro x hx; exact HAll.out x (by rw [List.take_of_length_le (by omega)]; exact hx))
   obtain ⟨f3, f4, f5, f6, f7⟩ := HM.out.cells
   simp only at f3 f4 f5
   go_wp2_with fail
   clear f3 f4 f5 f6 f7
   go_loopw [39] (fun i wr => ∃ k : Nat, i = .int .i64 k ∧ k ≤ g.blocks.length ∧ Hid (SMem w g ⟨.slice An g.nodes.length cn, .slice Ab g.blocks.length cb, .slice As g.states.length cs⟩ wr) ∧ Hid (∀ x ∈ g.blocks.take k, blockOk g x = true)) (fun i _ => g.blocks.length - (intOf i).toNat)
   case atStart => exact ⟨0, rfl, Nat.zero_le _, HM, Lib.hid (by simp)⟩
   case round =>
    obtain ⟨k, rfl, hk, HMr, HAllB⟩ := hrel
    by_cases hlt : k < g.blocks.length
    ·obtain ⟨A', c', en, _, _, hp⟩ := HMr.out.gr.gr.2.1
     simp only at en
     obtain ⟨bm, offm, rfl, hbm, hp⟩ := hp (by omega)
     injection en with en1 en2 en3
     subst en1
     obtain ⟨y, hy⟩ := getE hlt
     obtain ⟨yv, hyp, g0, g1, g2, g3, g4, g5⟩ := (hp k y hy).parts
     obtain ⟨v0, v2, v3, v4⟩ := yv
     obtain ⟨A0, c0, e0⟩ := hyp.p0.shape
     obtain ⟨A2, c2, e2⟩ := hyp.p2.shape
     obtain ⟨A3, c3, e3⟩ := hyp.p3.shape
     obtain ⟨A4, c4, e4⟩ := hyp.p4.shape
     simp only at e0 e2 e3 e4 g0 g2 g3 g4
     subst e0 e2 e3 e4
     have HY := Lib.hid hy
     obtain ⟨w4, hw4⟩ : ∃ w4 : World, w4 = wr.alloc (.cells (bbox y ⟨.slice A0 y.nodes.length c0, .slice A2 y.args.length c2, .slice A3 y.next.length c3, .slice A4 y.ahead.length c4⟩) 41) := ⟨_, rfl⟩
     have HM4 : Hid (SMem w g ⟨.slice An g.nodes.length cn, .slice (some ⟨bm, offm, none⟩) g.blocks.length cb, .slice As g.states.length cs⟩ w4) := Lib.hid (by subst hw4; exact HMr.out.alloc _)
     have HC4 : Hid (BCtx w4 w.heap.size wr.heap.size ⟨.slice A0 y.nodes.length c0, .slice A2 y.args.length c2, .slice A3 y.next.length c3, .slice A4 y.ahead.length c4⟩ y) := Lib.hid ⟨hyp.keep (Same.of_below (by subst hw4; exact ((Below.refl _ _).alloc (Nat.le_refl _) _).mono HMr.out.low.size)), HM4.out.low.size, by subst hw4; exact Blk.new wr _ _⟩
     unfold bbox at hw4
     simp only at hw4
     clear hp hy hyp en3
     go_upto_region 15 with fail
     rw [← hw4]
     clear hw4 g0 g1 g2 g3 g4 g5
     have H34 := Lib.hid (show w4.cell? ⟨w.heap.size, 3, none⟩ = some (.slice An g.nodes.length cn) from HM4.out.cells.1); have H44 := Lib.hid (show w4.cell? ⟨w.heap.size, 4, none⟩ = some (.slice (some ⟨bm, offm, none⟩) g.blocks.length cb) from HM4.out.cells.2.1); have H54 := Lib.hid (show w4.cell? ⟨w.heap.size, 5, none⟩ = some (.slice As g.states.length cs) from HM4.out.cells.2.2.1); have zm4 := HM4.out.cells.2.2.2.2; obtain ⟨z04, z24, z34, z44, z54⟩ := HC4.out.cells; simp only at z04 z24 z34 z44
     cases hb1 : bad 0 g.nodes.length y.nodes
     ·cases hb2 : bad 0 g.nodes.length y.args
      ·cases hb3 : bad 0 g.blocks.length y.next
       ·cases hb4 : bad 0 g.blocks.length y.ahead
        ·cases hb5 : off (-1) g.states.length y.state
         ·have HF : Hid (soundB g = false) := Lib.hid (sound_block (List.mem_of_getElem? HY.out) (by unfold blockOk; rw [hb1, hb2, hb3, hb4, hb5]; rfl))
          go_wp2_with (first | (go_at_call 69; ((with_reducible refine (isNode_miss w4 w.heap.size _ y.nodes _ g.nodes.length cn (HC4.out.parts.p0.mono HM4.out.low.size) H34.out (bad 0 g.nodes.length y.nodes) (bad_iff _ _ _)).mono ?_)); rintro e w5 ⟨rfl, hb2⟩; have HM5 := Lib.hid (HM4.out.below hb2); have HC5 := Lib.hid (HC4.out.below hb2); clear hb2; have H35 := Lib.hid (show w5.cell? ⟨w.heap.size, 3, none⟩ = some (.slice An g.nodes.length cn) from HM5.out.cells.1); have H45 := Lib.hid (show w5.cell? ⟨w.heap.size, 4, none⟩ = some (.slice (some ⟨bm, offm, none⟩) g.blocks.length cb) from HM5.out.cells.2.1); have H55 := Lib.hid (show w5.cell? ⟨w.heap.size, 5, none⟩ = some (.slice As g.states.length cs) from HM5.out.cells.2.2.1); have zm5 := HM5.out.cells.2.2.2.2; obtain ⟨z05, z25, z35, z45, z55⟩ := HC5.out.cells; simp only at z05 z25 z35 z45) | (go_at_call 69; ((with_reducible refine (isNode_miss w5 w.heap.size _ y.args _ g.nodes.length cn (HC5.out.parts.p2.mono HM5.out.low.size) H35.out (bad 0 g.nodes.length y.args) (bad_iff _ _ _)).mono ?_)); rintro e w6 ⟨rfl, hb2⟩; have HM6 := Lib.hid (HM5.out.below hb2); have HC6 := Lib.hid (HC5.out.below hb2); clear hb2; have H36 := Lib.hid (show w6.cell? ⟨w.heap.size, 3, none⟩ = some (.slice An g.nodes.length cn) from HM6.out.cells.1); have H46 := Lib.hid (show w6.cell? ⟨w.heap.size, 4, none⟩ = some (.slice (some ⟨bm, offm, none⟩) g.blocks.length cb) from HM6.out.cells.2.1); have H56 := Lib.hid (show w6.cell? ⟨w.heap.size, 5, none⟩ = some (.slice As g.states.length cs) from HM6.out.cells.2.2.1); have zm6 := HM6.out.cells.2.2.2.2; obtain ⟨z06, z26, z36, z46, z56⟩ := HC6.out.cells; simp only at z06 z26 z36 z46) | (go_at_call 69; ((with_reducible refine (isBlock_miss w6 w.heap.size _ y.next _ g.blocks.length cb (HC6.out.parts.p3.mono HM6.out.low.size) H46.out (bad 0 g.blocks.length y.next) (bad_iff _ _ _)).mono ?_)); rintro e w7 ⟨rfl, hb2⟩; have HM7 := Lib.hid (HM6.out.below hb2); have HC7 := Lib.hid (HC6.out.below hb2); clear hb2; have H37 := Lib.hid (show w7.cell? ⟨w.heap.size, 3, none⟩ = some (.slice An g.nodes.length cn) from HM7.out.cells.1); have H47 := Lib.hid (show w7.cell? ⟨w.heap.size, 4, none⟩ = some (.slice (some ⟨bm, offm, none⟩) g.blocks.length cb) from HM7.out.cells.2.1); have H57 := Lib.hid (show w7.cell? ⟨w.heap.size, 5, none⟩ = some (.slice As g.states.length cs) from HM7.out.cells.2.2.1); have zm7 := HM7.out.cells.2.2.2.2; obtain ⟨z07, z27, z37, z47, z57⟩ := HC7.out.cells; simp only at z07 z27 z37 z47) | (go_at_call 69; ((with_reducible refine (isBlock_miss w7 w.heap.size _ y.ahead _ g.blocks.length cb (HC7.out.parts.p4.mono HM7.out.low.size) H47.out (bad 0 g.blocks.length y.ahead) (bad_iff _ _ _)).mono ?_)); rintro e w8 ⟨rfl, hb2⟩; have HM8 := Lib.hid (HM7.out.below hb2); have HC8 := Lib.hid (HC7.out.below hb2); clear hb2; have H38 := Lib.hid (show w8.cell? ⟨w.heap.size, 3, none⟩ = some (.slice An g.nodes.length cn) from HM8.out.cells.1); have H48 := Lib.hid (show w8.cell? ⟨w.heap.size, 4, none⟩ = some (.slice (some ⟨bm, offm, none⟩) g.blocks.length cb) from HM8.out.cells.2.1); have H58 := Lib.hid (show w8.cell? ⟨w.heap.size, 5, none⟩ = some (.slice As g.states.length cs) from HM8.out.cells.2.2.1); have zm8 := HM8.out.cells.2.2.2.2; obtain ⟨z08, z28, z38, z48, z58⟩ := HC8.out.cells; simp only at z08 z28 z38 z48) | (go_at_call 71; refine (isState_any w8 w.heap.size y.state As g.states.length cs H58.out (off (-1) g.states.length y.state) (off_iff _ _ _)).mono ?_; rintro e w' ⟨rfl, hw'⟩; have hw2 := hw'.symm; subst hw2))
          go_ret
          exact ⟨by rw [HF.out]; rfl, HM8.out.low⟩
         ·have HOk : Hid (blockOk g y = true) := Lib.hid (by unfold blockOk; rw [hb1, hb2, hb3, hb4, hb5]; rfl)
          go_wp2_with (first | (go_at_call 69; ((with_reducible refine (isNode_miss w4 w.heap.size _ y.nodes _ g.nodes.length cn (HC4.out.parts.p0.mono HM4.out.low.size) H34.out (bad 0 g.nodes.length y.nodes) (bad_iff _ _ _)).mono ?_)); rintro e w5 ⟨rfl, hb2⟩; have HM5 := Lib.hid (HM4.out.below hb2); have HC5 := Lib.hid (HC4.out.below hb2); clear hb2; have H35 := Lib.hid (show w5.cell? ⟨w.heap.size, 3, none⟩ = some (.slice An g.nodes.length cn) from HM5.out.cells.1); have H45 := Lib.hid (show w5.cell? ⟨w.heap.size, 4, none⟩ = some (.slice (some ⟨bm, offm, none⟩) g.blocks.length cb) from HM5.out.cells.2.1); have H55 := Lib.hid (show w5.cell? ⟨w.heap.size, 5, none⟩ = some (.slice As g.states.length cs) from HM5.out.cells.2.2.1); have zm5 := HM5.out.cells.2.2.2.2; obtain ⟨z05, z25, z35, z45, z55⟩ := HC5.out.cells; simp only at z05 z25 z35 z45) | (go_at_call 69; ((with_reducible refine (isNode_miss w5 w.heap.size _ y.args _ g.nodes.length cn (HC5.out.parts.p2.mono HM5.out.low.size) H35.out (bad 0 g.nodes.length y.args) (bad_iff _ _ _)).mono ?_)); rintro e w6 ⟨rfl, hb2⟩; have HM6 := Lib.hid (HM5.out.below hb2); have HC6 := Lib.hid (HC5.out.below hb2); clear hb2; have H36 := Lib.hid (show w6.cell? ⟨w.heap.size, 3, none⟩ = some (.slice An g.nodes.length cn) from HM6.out.cells.1); have H46 := Lib.hid (show w6.cell? ⟨w.heap.size, 4, none⟩ = some (.slice (some ⟨bm, offm, none⟩) g.blocks.length cb) from HM6.out.cells.2.1); have H56 := Lib.hid (show w6.cell? ⟨w.heap.size, 5, none⟩ = some (.slice As g.states.length cs) from HM6.out.cells.2.2.1); have zm6 := HM6.out.cells.2.2.2.2; obtain ⟨z06, z26, z36, z46, z56⟩ := HC6.out.cells; simp only at z06 z26 z36 z46) | (go_at_call 69; ((with_reducible refine (isBlock_miss w6 w.heap.size _ y.next _ g.blocks.length cb (HC6.out.parts.p3.mono HM6.out.low.size) H46.out (bad 0 g.blocks.length y.next) (bad_iff _ _ _)).mono ?_)); rintro e w7 ⟨rfl, hb2⟩; have HM7 := Lib.hid (HM6.out.below hb2); have HC7 := Lib.hid (HC6.out.below hb2); clear hb2; have H37 := Lib.hid (show w7.cell? ⟨w.heap.size, 3, none⟩ = some (.slice An g.nodes.length cn) from HM7.out.cells.1); have H47 := Lib.hid (show w7.cell? ⟨w.heap.size, 4, none⟩ = some (.slice (some ⟨bm, offm, none⟩) g.blocks.length cb) from HM7.out.cells.2.1); have H57 := Lib.hid (show w7.cell? ⟨w.heap.size, 5, none⟩ = some (.slice As g.states.length cs) from HM7.out.cells.2.2.1); have zm7 := HM7.out.cells.2.2.2.2; obtain ⟨z07, z27, z37, z47, z57⟩ := HC7.out.cells; simp only at z07 z27 z37 z47) | (go_at_call 69; ((with_reducible refine (isBlock_miss w7 w.heap.size _ y.ahead _ g.blocks.length cb (HC7.out.parts.p4.mono HM7.out.low.size) H47.out (bad 0 g.blocks.length y.ahead) (bad_iff _ _ _)).mono ?_)); rintro e w8 ⟨rfl, hb2⟩; have HM8 := Lib.hid (HM7.out.below hb2); have HC8 := Lib.hid (HC7.out.below hb2); clear hb2; have H38 := Lib.hid (show w8.cell? ⟨w.heap.size, 3, none⟩ = some (.slice An g.nodes.length cn) from HM8.out.cells.1); have H48 := Lib.hid (show w8.cell? ⟨w.heap.size, 4, none⟩ = some (.slice (some ⟨bm, offm, none⟩) g.blocks.length cb) from HM8.out.cells.2.1); have H58 := Lib.hid (show w8.cell? ⟨w.heap.size, 5, none⟩ = some (.slice As g.states.length cs) from HM8.out.cells.2.2.1); have zm8 := HM8.out.cells.2.2.2.2; obtain ⟨z08, z28, z38, z48, z58⟩ := HC8.out.cells; simp only at z08 z28 z38 z48) | (go_at_call 71; refine (isState_any w8 w.heap.size y.state As g.states.length cs H58.out (off (-1) g.states.length y.state) (off_iff _ _ _)).mono ?_; rintro e w' ⟨rfl, hw'⟩; have hw2 := hw'.symm; subst hw2))
          go_roundw
          case rel => exact ⟨k + 1, by go_num, by omega, HM8, Lib.hid (take_all HAllB.out HY.out HOk.out)⟩
          case measure => simp [intOf]; omega
        ·have HF : Hid (soundB g = false) := Lib.hid (sound_block (List.mem_of_getElem? HY.out) (by unfold blockOk; rw [hb1, hb2, hb3, hb4]; rfl))
         go_wp2_with (first | (go_at_call 69; ((with_reducible refine (isNode_miss w4 w.heap.size _ y.nodes _ g.nodes.length cn (HC4.out.parts.p0.mono HM4.out.low.size) H34.out (bad 0 g.nodes.length y.nodes) (bad_iff _ _ _)).mono ?_)); rintro e w5 ⟨rfl, hb2⟩; have HM5 := Lib.hid (HM4.out.below hb2); have HC5 := Lib.hid (HC4.out.below hb2); clear hb2; have H35 := Lib.hid (show w5.cell? ⟨w.heap.size, 3, none⟩ = some (.slice An g.nodes.length cn) from HM5.out.cells.1); have H45 := Lib.hid (show w5.cell? ⟨w.heap.size, 4, none⟩ = some (.slice (some ⟨bm, offm, none⟩) g.blocks.length cb) from HM5.out.cells.2.1); have H55 := Lib.hid (show w5.cell? ⟨w.heap.size, 5, none⟩ = some (.slice As g.states.length cs) from HM5.out.cells.2.2.1); have zm5 := HM5.out.cells.2.2.2.2; obtain ⟨z05, z25, z35, z45, z55⟩ := HC5.out.cells; simp only at z05 z25 z35 z45) | (go_at_call 69; ((with_reducible refine (isNode_miss w5 w.heap.size _ y.args _ g.nodes.length cn (HC5.out.parts.p2.mono HM5.out.low.size) H35.out (bad 0 g.nodes.length y.args) (bad_iff _ _ _)).mono ?_)); rintro e w6 ⟨rfl, hb2⟩; have HM6 := Lib.hid (HM5.out.below hb2); have HC6 := Lib.hid (HC5.out.below hb2); clear hb2; have H36 := Lib.hid (show w6.cell? ⟨w.heap.size, 3, none⟩ = some (.slice An g.nodes.length cn) from HM6.out.cells.1); have H46 := Lib.hid (show w6.cell? ⟨w.heap.size, 4, none⟩ = some (.slice (some ⟨bm, offm, none⟩) g.blocks.length cb) from HM6.out.cells.2.1); have H56 := Lib.hid (show w6.cell? ⟨w.heap.size, 5, none⟩ = some (.slice As g.states.length cs) from HM6.out.cells.2.2.1); have zm6 := HM6.out.cells.2.2.2.2; obtain ⟨z06, z26, z36, z46, z56⟩ := HC6.out.cells; simp only at z06 z26 z36 z46) | (go_at_call 69; ((with_reducible refine (isBlock_miss w6 w.heap.size _ y.next _ g.blocks.length cb (HC6.out.parts.p3.mono HM6.out.low.size) H46.out (bad 0 g.blocks.length y.next) (bad_iff _ _ _)).mono ?_)); rintro e w7 ⟨rfl, hb2⟩; have HM7 := Lib.hid (HM6.out.below hb2); have HC7 := Lib.hid (HC6.out.below hb2); clear hb2; have H37 := Lib.hid (show w7.cell? ⟨w.heap.size, 3, none⟩ = some (.slice An g.nodes.length cn) from HM7.out.cells.1); have H47 := Lib.hid (show w7.cell? ⟨w.heap.size, 4, none⟩ = some (.slice (some ⟨bm, offm, none⟩) g.blocks.length cb) from HM7.out.cells.2.1); have H57 := Lib.hid (show w7.cell? ⟨w.heap.size, 5, none⟩ = some (.slice As g.states.length cs) from HM7.out.cells.2.2.1); have zm7 := HM7.out.cells.2.2.2.2; obtain ⟨z07, z27, z37, z47, z57⟩ := HC7.out.cells; simp only at z07 z27 z37 z47) | (go_at_call 69; ((with_reducible refine (isBlock_miss w7 w.heap.size _ y.ahead _ g.blocks.length cb (HC7.out.parts.p4.mono HM7.out.low.size) H47.out (bad 0 g.blocks.length y.ahead) (bad_iff _ _ _)).mono ?_)); rintro e w8 ⟨rfl, hb2⟩; have HM8 := Lib.hid (HM7.out.below hb2); have HC8 := Lib.hid (HC7.out.below hb2); clear hb2; have H38 := Lib.hid (show w8.cell? ⟨w.heap.size, 3, none⟩ = some (.slice An g.nodes.length cn) from HM8.out.cells.1); have H48 := Lib.hid (show w8.cell? ⟨w.heap.size, 4, none⟩ = some (.slice (some ⟨bm, offm, none⟩) g.blocks.length cb) from HM8.out.cells.2.1); have H58 := Lib.hid (show w8.cell? ⟨w.heap.size, 5, none⟩ = some (.slice As g.states.length cs) from HM8.out.cells.2.2.1); have zm8 := HM8.out.cells.2.2.2.2; obtain ⟨z08, z28, z38, z48, z58⟩ := HC8.out.cells; simp only at z08 z28 z38 z48) | (go_at_call 71; refine (isState_any w8 w.heap.size y.state As g.states.length cs H58.out (off (-1) g.states.length y.state) (off_iff _ _ _)).mono ?_; rintro e w' ⟨rfl, hw'⟩; have hw2 := hw'.symm; subst hw2))
         go_ret
         exact ⟨by rw [HF.out]; rfl, HM8.out.low⟩
       ·have HF : Hid (soundB g = false) := Lib.hid (sound_block (List.mem_of_getElem? HY.out) (by unfold blockOk; rw [hb1, hb2, hb3]; rfl))
        go_wp2_with (first | (go_at_call 69; ((with_reducible refine (isNode_miss w4 w.heap.size _ y.nodes _ g.nodes.length cn (HC4.out.parts.p0.mono HM4.out.low.size) H34.out (bad 0 g.nodes.length y.nodes) (bad_iff _ _ _)).mono ?_)); rintro e w5 ⟨rfl, hb2⟩; have HM5 := Lib.hid (HM4.out.below hb2); have HC5 := Lib.hid (HC4.out.below hb2); clear hb2; have H35 := Lib.hid (show w5.cell? ⟨w.heap.size, 3, none⟩ = some (.slice An g.nodes.length cn) from HM5.out.cells.1); have H45 := Lib.hid (show w5.cell? ⟨w.heap.size, 4, none⟩ = some (.slice (some ⟨bm, offm, none⟩) g.blocks.length cb) from HM5.out.cells.2.1); have H55 := Lib.hid (show w5.cell? ⟨w.heap.size, 5, none⟩ = some (.slice As g.states.length cs) from HM5.out.cells.2.2.1); have zm5 := HM5.out.cells.2.2.2.2; obtain ⟨z05, z25, z35, z45, z55⟩ := HC5.out.cells; simp only at z05 z25 z35 z45) | (go_at_call 69; ((with_reducible refine (isNode_miss w5 w.heap.size _ y.args _ g.nodes.length cn (HC5.out.parts.p2.mono HM5.out.low.size) H35.out (bad 0 g.nodes.length y.args) (bad_iff _ _ _)).mono ?_)); rintro e w6 ⟨rfl, hb2⟩; have HM6 := Lib.hid (HM5.out.below hb2); have HC6 := Lib.hid (HC5.out.below hb2); clear hb2; have H36 := Lib.hid (show w6.cell? ⟨w.heap.size, 3, none⟩ = some (.slice An g.nodes.length cn) from HM6.out.cells.1); have H46 := Lib.hid (show w6.cell? ⟨w.heap.size, 4, none⟩ = some (.slice (some ⟨bm, offm, none⟩) g.blocks.length cb) from HM6.out.cells.2.1); have H56 := Lib.hid (show w6.cell? ⟨w.heap.size, 5, none⟩ = some (.slice As g.states.length cs) from HM6.out.cells.2.2.1); have zm6 := HM6.out.cells.2.2.2.2; obtain ⟨z06, z26, z36, z46, z56⟩ := HC6.out.cells; simp only at z06 z26 z36 z46) | (go_at_call 69; ((with_reducible refine (isBlock_miss w6 w.heap.size _ y.next _ g.blocks.length cb (HC6.out.parts.p3.mono HM6.out.low.size) H46.out (bad 0 g.blocks.length y.next) (bad_iff _ _ _)).mono ?_)); rintro e w7 ⟨rfl, hb2⟩; have HM7 := Lib.hid (HM6.out.below hb2); have HC7 := Lib.hid (HC6.out.below hb2); clear hb2; have H37 := Lib.hid (show w7.cell? ⟨w.heap.size, 3, none⟩ = some (.slice An g.nodes.length cn) from HM7.out.cells.1); have H47 := Lib.hid (show w7.cell? ⟨w.heap.size, 4, none⟩ = some (.slice (some ⟨bm, offm, none⟩) g.blocks.length cb) from HM7.out.cells.2.1); have H57 := Lib.hid (show w7.cell? ⟨w.heap.size, 5, none⟩ = some (.slice As g.states.length cs) from HM7.out.cells.2.2.1); have zm7 := HM7.out.cells.2.2.2.2; obtain ⟨z07, z27, z37, z47, z57⟩ := HC7.out.cells; simp only at z07 z27 z37 z47) | (go_at_call 69; ((with_reducible refine (isBlock_miss w7 w.heap.size _ y.ahead _ g.blocks.length cb (HC7.out.parts.p4.mono HM7.out.low.size) H47.out (bad 0 g.blocks.length y.ahead) (bad_iff _ _ _)).mono ?_)); rintro e w8 ⟨rfl, hb2⟩; have HM8 := Lib.hid (HM7.out.below hb2); have HC8 := Lib.hid (HC7.out.below hb2); clear hb2; have H38 := Lib.hid (show w8.cell? ⟨w.heap.size, 3, none⟩ = some (.slice An g.nodes.length cn) from HM8.out.cells.1); have H48 := Lib.hid (show w8.cell? ⟨w.heap.size, 4, none⟩ = some (.slice (some ⟨bm, offm, none⟩) g.blocks.length cb) from HM8.out.cells.2.1); have H58 := Lib.hid (show w8.cell? ⟨w.heap.size, 5, none⟩ = some (.slice As g.states.length cs) from HM8.out.cells.2.2.1); have zm8 := HM8.out.cells.2.2.2.2; obtain ⟨z08, z28, z38, z48, z58⟩ := HC8.out.cells; simp only at z08 z28 z38 z48) | (go_at_call 71; refine (isState_any w8 w.heap.size y.state As g.states.length cs H58.out (off (-1) g.states.length y.state) (off_iff _ _ _)).mono ?_; rintro e w' ⟨rfl, hw'⟩; have hw2 := hw'.symm; subst hw2))
        go_ret
        exact ⟨by rw [HF.out]; rfl, HM7.out.low⟩
      ·have HF : Hid (soundB g = false) := Lib.hid (sound_block (List.mem_of_getElem? HY.out) (by unfold blockOk; rw [hb1, hb2]; rfl))
       go_wp2_with (first | (go_at_call 69; ((with_reducible refine (isNode_miss w4 w.heap.size _ y.nodes _ g.nodes.length cn (HC4.out.parts.p0.mono HM4.out.low.size) H34.out (bad 0 g.nodes.length y.nodes) (bad_iff _ _ _)).mono ?_)); rintro e w5 ⟨rfl, hb2⟩; have HM5 := Lib.hid (HM4.out.below hb2); have HC5 := Lib.hid (HC4.out.below hb2); clear hb2; have H35 := Lib.hid (show w5.cell? ⟨w.heap.size, 3, none⟩ = some (.slice An g.nodes.length cn) from HM5.out.cells.1); have H45 := Lib.hid (show w5.cell? ⟨w.heap.size, 4, none⟩ = some (.slice (some ⟨bm, offm, none⟩) g.blocks.length cb) from HM5.out.cells.2.1); have H55 := Lib.hid (show w5.cell? ⟨w.heap.size, 5, none⟩ = some (.slice As g.states.length cs) from HM5.out.cells.2.2.1); have zm5 := HM5.out.cells.2.2.2.2; obtain ⟨z05, z25, z35, z45, z55⟩ := HC5.out.cells; simp only at z05 z25 z35 z45) | (go_at_call 69; ((with_reducible refine (isNode_miss w5 w.heap.size _ y.args _ g.nodes.length cn (HC5.out.parts.p2.mono HM5.out.low.size) H35.out (bad 0 g.nodes.length y.args) (bad_iff _ _ _)).mono ?_)); rintro e w6 ⟨rfl, hb2⟩; have HM6 := Lib.hid (HM5.out.below hb2); have HC6 := Lib.hid (HC5.out.below hb2); clear hb2; have H36 := Lib.hid (show w6.cell? ⟨w.heap.size, 3, none⟩ = some (.slice An g.nodes.length cn) from HM6.out.cells.1); have H46 := Lib.hid (show w6.cell? ⟨w.heap.size, 4, none⟩ = some (.slice (some ⟨bm, offm, none⟩) g.blocks.length cb) from HM6.out.cells.2.1); have H56 := Lib.hid (show w6.cell? ⟨w.heap.size, 5, none⟩ = some (.slice As g.states.length cs) from HM6.out.cells.2.2.1); have zm6 := HM6.out.cells.2.2.2.2; obtain ⟨z06, z26, z36, z46, z56⟩ := HC6.out.cells; simp only at z06 z26 z36 z46) | (go_at_call 69; ((with_reducible refine (isBlock_miss w6 w.heap.size _ y.next _ g.blocks.length cb (HC6.out.parts.p3.mono HM6.out.low.size) H46.out (bad 0 g.blocks.length y.next) (bad_iff _ _ _)).mono ?_)); rintro e w7 ⟨rfl, hb2⟩; have HM7 := Lib.hid (HM6.out.below hb2); have HC7 := Lib.hid (HC6.out.below hb2); clear hb2; have H37 := Lib.hid (show w7.cell? ⟨w.heap.size, 3, none⟩ = some (.slice An g.nodes.length cn) from HM7.out.cells.1); have H47 := Lib.hid (show w7.cell? ⟨w.heap.size, 4, none⟩ = some (.slice (some ⟨bm, offm, none⟩) g.blocks.length cb) from HM7.out.cells.2.1); have H57 := Lib.hid (show w7.cell? ⟨w.heap.size, 5, none⟩ = some (.slice As g.states.length cs) from HM7.out.cells.2.2.1); have zm7 := HM7.out.cells.2.2.2.2; obtain ⟨z07, z27, z37, z47, z57⟩ := HC7.out.cells; simp only at z07 z27 z37 z47) | (go_at_call 69; ((with_reducible refine (isBlock_miss w7 w.heap.size _ y.ahead _ g.blocks.length cb (HC7.out.parts.p4.mono HM7.out.low.size) H47.out (bad 0 g.blocks.length y.ahead) (bad_iff _ _ _)).mono ?_)); rintro e w8 ⟨rfl, hb2⟩; have HM8 := Lib.hid (HM7.out.below hb2); have HC8 := Lib.hid (HC7.out.below hb2); clear hb2; have H38 := Lib.hid (show w8.cell? ⟨w.heap.size, 3, none⟩ = some (.slice An g.nodes.length cn) from HM8.out.cells.1); have H48 := Lib.hid (show w8.cell? ⟨w.heap.size, 4, none⟩ = some (.slice (some ⟨bm, offm, none⟩) g.blocks.length cb) from HM8.out.cells.2.1); have H58 := Lib.hid (show w8.cell? ⟨w.heap.size, 5, none⟩ = some (.slice As g.states.length cs) from HM8.out.cells.2.2.1); have zm8 := HM8.out.cells.2.2.2.2; obtain ⟨z08, z28, z38, z48, z58⟩ := HC8.out.cells; simp only at z08 z28 z38 z48) | (go_at_call 71; refine (isState_any w8 w.heap.size y.state As g.states.length cs H58.out (off (-1) g.states.length y.state) (off_iff _ _ _)).mono ?_; rintro e w' ⟨rfl, hw'⟩; have hw2 := hw'.symm; subst hw2))
       go_ret
       exact ⟨by rw [HF.out]; rfl, HM6.out.low⟩
     ·have HF : Hid (soundB g = false) := Lib.hid (sound_block (List.mem_of_getElem? HY.out) (by unfold blockOk; rw [hb1]; rfl))
      go_wp2_with (first | (go_at_call 69; ((with_reducible refine (isNode_miss w4 w.heap.size _ y.nodes _ g.nodes.length cn (HC4.out.parts.p0.mono HM4.out.low.size) H34.out (bad 0 g.nodes.length y.nodes) (bad_iff _ _ _)).mono ?_)); rintro e w5 ⟨rfl, hb2⟩; have HM5 := Lib.hid (HM4.out.below hb2); have HC5 := Lib.hid (HC4.out.below hb2); clear hb2; have H35 := Lib.hid (show w5.cell? ⟨w.heap.size, 3, none⟩ = some (.slice An g.nodes.length cn) from HM5.out.cells.1); have H45 := Lib.hid (show w5.cell? ⟨w.heap.size, 4, none⟩ = some (.slice (some ⟨bm, offm, none⟩) g.blocks.length cb) from HM5.out.cells.2.1); have H55 := Lib.hid (show w5.cell? ⟨w.heap.size, 5, none⟩ = some (.slice As g.states.length cs) from HM5.out.cells.2.2.1); have zm5 := HM5.out.cells.2.2.2.2; obtain ⟨z05, z25, z35, z45, z55⟩ := HC5.out.cells; simp only at z05 z25 z35 z45) | (go_at_call 69; ((with_reducible refine (isNode_miss w5 w.heap.size _ y.args _ g.nodes.length cn (HC5.out.parts.p2.mono HM5.out.low.size) H35.out (bad 0 g.nodes.length y.args) (bad_iff _ _ _)).mono ?_)); rintro e w6 ⟨rfl, hb2⟩; have HM6 := Lib.hid (HM5.out.below hb2); have HC6 := Lib.hid (HC5.out.below hb2); clear hb2; have H36 := Lib.hid (show w6.cell? ⟨w.heap.size, 3, none⟩ = some (.slice An g.nodes.length cn) from HM6.out.cells.1); have H46 := Lib.hid (show w6.cell? ⟨w.heap.size, 4, none⟩ = some (.slice (some ⟨bm, offm, none⟩) g.blocks.length cb) from HM6.out.cells.2.1); have H56 := Lib.hid (show w6.cell? ⟨w.heap.size, 5, none⟩ = some (.slice As g.states.length cs) from HM6.out.cells.2.2.1); have zm6 := HM6.out.cells.2.2.2.2; obtain ⟨z06, z26, z36, z46, z56⟩ := HC6.out.cells; simp only at z06 z26 z36 z46) | (go_at_call 69; ((with_reducible refine (isBlock_miss w6 w.heap.size _ y.next _ g.blocks.length cb (HC6.out.parts.p3.mono HM6.out.low.size) H46.out (bad 0 g.blocks.length y.next) (bad_iff _ _ _)).mono ?_)); rintro e w7 ⟨rfl, hb2⟩; have HM7 := Lib.hid (HM6.out.below hb2); have HC7 := Lib.hid (HC6.out.below hb2); clear hb2; have H37 := Lib.hid (show w7.cell? ⟨w.heap.size, 3, none⟩ = some (.slice An g.nodes.length cn) from HM7.out.cells.1); have H47 := Lib.hid (show w7.cell? ⟨w.heap.size, 4, none⟩ = some (.slice (some ⟨bm, offm, none⟩) g.blocks.length cb) from HM7.out.cells.2.1); have H57 := Lib.hid (show w7.cell? ⟨w.heap.size, 5, none⟩ = some (.slice As g.states.length cs) from HM7.out.cells.2.2.1); have zm7 := HM7.out.cells.2.2.2.2; obtain ⟨z07, z27, z37, z47, z57⟩ := HC7.out.cells; simp only at z07 z27 z37 z47) | (go_at_call 69; ((with_reducible refine (isBlock_miss w7 w.heap.size _ y.ahead _ g.blocks.length cb (HC7.out.parts.p4.mono HM7.out.low.size) H47.out (bad 0 g.blocks.length y.ahead) (bad_iff _ _ _)).mono ?_)); rintro e w8 ⟨rfl, hb2⟩; have HM8 := Lib.hid (HM7.out.below hb2); have HC8 := Lib.hid (HC7.out.below hb2); clear hb2; have H38 := Lib.hid (show w8.cell? ⟨w.heap.size, 3, none⟩ = some (.slice An g.nodes.length cn) from HM8.out.cells.1); have H48 := Lib.hid (show w8.cell? ⟨w.heap.size, 4, none⟩ = some (.slice (some ⟨bm, offm, none⟩) g.blocks.length cb) from HM8.out.cells.2.1); have H58 := Lib.hid (show w8.cell? ⟨w.heap.size, 5, none⟩ = some (.slice As g.states.length cs) from HM8.out.cells.2.2.1); have zm8 := HM8.out.cells.2.2.2.2; obtain ⟨z08, z28, z38, z48, z58⟩ := HC8.out.cells; simp only at z08 z28 z38 z48) | (go_at_call 71; refine (isState_any w8 w.heap.size y.state As g.states.length cs H58.out (off (-1) g.states.length y.state) (off_iff _ _ _)).mono ?_; rintro e w' ⟨rfl, hw'⟩; have hw2 := hw'.symm; subst hw2))
      go_ret
      exact ⟨by rw [HF.out]; rfl, HM5.out.low⟩
    ·have HAB : Hid (g.blocks.all (blockOk g) = true) := Lib.hid (by rw [List.all_eq_true]; intro x hx; exact HAllB.out x (by rw [List.take_of_length_le (by omega)]; exact hx))
     obtain ⟨f3, f4, f5, f6, f7⟩ := HMr.out.cells
     simp only at f3 f4 f5
     obtain ⟨t, ht⟩ : ∃ t : Bool, t = !(g.states.all (stateOk g)) := ⟨_, rfl⟩
     have HTt := Lib.hid ht
     have HS : Hid (StatesV wr wr.heap.size (.slice As g.states.length cs) g.states) := Lib.hid (HMr.out.gr.graph.2.2)
     clear ht
     go_wp2_with (go_at_call 73; refine (stateContains_any w wr g ⟨.slice An g.nodes.length cn, .slice Ab g.blocks.length cb, .slice As g.states.length cs⟩ _ g.states An cn HMr.out rfl HS.out t HTt.out).mono ?_; rintro e w2 ⟨rfl, hb2⟩; have HB2 := Lib.hid hb2; clear hb2)
     go_ret
     refine ⟨?_, HMr.out.low.trans (HB2.out.mono HMr.out.low.size)⟩
     have : soundB g = !t := by unfold soundB; rw [HAN.out, HAB.out, HTt.out]; simp
     rw [this]
     rfl
end Go.Proofs.YtkmfdiboekoioaaGreat
