/- The walks of the functions that count how much a graph has in it. Conditions: each slice within the reach of the model. -/
import Derived.Test.YtkmfdiboekoioaaGreatRows
import Derived.Test.YtkmfdiboekoioaaGreatCBase
import Derived.WalkKit
import Derived.WalkSpells
import Derived.WalkLawsBesides
import Derived.Outline
import Derived.Lib.Hide
set_option linter.unusedSimpArgs false
set_option linter.unusedVariables false
namespace Go.Proofs.YtkmfdiboekoioaaGreat
open Go.RowKit

/-- N is the size n, or both are beyond what is counted. -/
def SzOf (U : Int) (n : Nat) (N : Int) : Prop := 0 ≤ N ∧ N ≤ U ∧ (N ≤ 1048576 → N = n)
def SomeSz (U : Int) (n : Nat) (w : World) (e : Ending) (w' : World) : Prop := ∃ N : Int, e = .returned (.int .i64 N) ∧ SzOf U n N ∧ Below w.heap.size w w'

def sumSz {α : Type} (f : α → Nat) (l : List α) : Nat := (l.map f).foldr (· + ·) 0
theorem sumSz_append {α : Type} (f : α → Nat) (l m : List α) : sumSz f (l ++ m) = sumSz f l + sumSz f m := by
  induction l with
  | nil => simp [sumSz]
  | cons a l ih => simp only [sumSz, List.cons_append, List.map_cons, List.foldr_cons] at *; omega
theorem sumSz_take {α : Type} (f : α → Nat) (l : List α) (k : Nat) (x : α) (h : l[k]? = some x) : sumSz f (l.take (k + 1)) = sumSz f (l.take k) + f x := by
  rw [List.take_add_one, h, sumSz_append]; simp [sumSz]

def nodeSz (x : NodeP) : Nat := 1 + x.args.length
def blockSz (x : BlockP) : Nat := 1 + x.nodes.length + x.args.length + x.next.length + x.ahead.length
def stateSz (x : StateP) : Nat := 1 + x.slots.length
def nodesSz (l : List NodeP) : Nat := l.length + sumSz nodeSz l
def blocksSz (l : List BlockP) : Nat := l.length + sumSz blockSz l
def statesSz (l : List StateP) : Nat := l.length + sumSz stateSz l
def graphSz (g : GraphP) : Nat := 1 + nodesSz g.nodes + blocksSz g.blocks + statesSz g.states

theorem getE {α : Type} {l : List α} {k : Nat} (h : k < l.length) : ∃ x, l[k]? = some x := ⟨l[k], List.getElem?_eq_getElem h⟩

theorem intsSize (a : Option Addr) (n c : Nat) (w : World) :
    Calls Tryz.prog 104 #[.slice a n c] w fun e w' => e = .returned (.int .i64 n) ∧ w = w' := by
  go_enter Tryz.func104, Tryz.ntmps104
  go_wp2
  go_ret
  exact ⟨rfl, rfl⟩

theorem nodeSize (a : Option Addr) (n c : Nat) (c0 c2 c3 c4 : Value) (w : World) (_hn : n ≤ lim) :
    Calls Tryz.prog 80 #[.agg #[c0, .slice a n c, c2, c3, c4]] w (SomeSz 70368744177700 (1 + n) w) := by
  unfold lim at _hn
  go_enter Tryz.func80, Tryz.ntmps80
  go_wp2_with (go_at_call 104; refine (intsSize _ _ _ _).mono ?_; rintro e w' ⟨rfl, rfl⟩)
  go_ret
  exact ⟨_, rfl, ⟨by omega, by omega, fun _ => by omega⟩, (Below.refl _ _).alloc (Nat.le_refl _) _⟩

theorem stateSize (a : Option Addr) (n c : Nat) (c0 : Value) (w : World) (_hn : n ≤ lim) :
    Calls Tryz.prog 82 #[.agg #[c0, .slice a n c]] w (SomeSz 70368744177700 (1 + n) w) := by
  unfold lim at _hn
  go_enter Tryz.func82, Tryz.ntmps82
  go_wp2_with (go_at_call 104; refine (intsSize _ _ _ _).mono ?_; rintro e w' ⟨rfl, rfl⟩)
  go_ret
  exact ⟨_, rfl, ⟨by omega, by omega, fun _ => by omega⟩, (Below.refl _ _).alloc (Nat.le_refl _) _⟩

theorem blockSize (a0 a2 a3 a4 : Option Addr) (n0 d0 n2 d2 n3 d3 n4 d4 : Nat) (c1 c5 : Value) (w : World) (_h0 : n0 ≤ lim) (_h2 : n2 ≤ lim) (_h3 : n3 ≤ lim) (_h4 : n4 ≤ lim) :
    Calls Tryz.prog 81 #[.agg #[.slice a0 n0 d0, c1, .slice a2 n2 d2, .slice a3 n3 d3, .slice a4 n4 d4, c5]] w (SomeSz 70368744177700 (1 + n0 + n2 + n3 + n4) w) := by
  unfold lim at _h0 _h2 _h3 _h4
  go_enter Tryz.func81, Tryz.ntmps81
  go_wp2_with (go_at_call 104; refine (intsSize _ _ _ _).mono ?_; rintro e w' ⟨rfl, rfl⟩)
  all_goals
    go_ret
    exact ⟨_, rfl, ⟨by omega, by omega, fun _ => by omega⟩, (Below.refl _ _).alloc (Nat.le_refl _) _⟩

set_option maxHeartbeats 1000000 in
theorem nodesSize (v : Value) (l : List NodeP) (w : World) (hw : NodesV w w.heap.size v l) : Calls Tryz.prog 34 #[v] w (SomeSz 80000000000000 (nodesSz l) w) := by
  obtain ⟨A, c, rfl, _hc, hl, hw⟩ := hw
  have hlim : l.length ≤ 17592186044416 := by unfold lim at hl; omega
  clear hl
  have HW := Lib.hid hw; clear hw
  go_enter Tryz.func34, Tryz.ntmps34
  go_wp2
  go_loopw [3, 4] (fun t i wr => ∃ (k : Nat) (N : Int), k ≤ l.length ∧ i = .int .i64 k ∧ t = .int .i64 N ∧ 0 ≤ N ∧ N ≤ 80000000000000 ∧ Hid (N ≤ 1048576 → N = l.length + sumSz nodeSz (l.take k)) ∧ Below w.heap.size w wr) (fun _ i _ => l.length - (intOf i).toNat)
  case atStart => exact ⟨0, _, Nat.zero_le _, rfl, rfl, by omega, by omega, Lib.hid (fun _ => by simp [sumSz]), Below.refl _ _⟩
  case round =>
    obtain ⟨k, N, hk, rfl, rfl, h0, h1, hN, hb⟩ := hrel
    by_cases hlt : k < l.length
    · obtain ⟨b, off, rfl, hbB, hp⟩ := HW.out (by omega)
      obtain ⟨x, hx⟩ := getE hlt
      obtain ⟨f0, ⟨v1, f1, hv1⟩, f2, f3, f4⟩ := (hp k x hx).keep (Same.of_below hb) hbB
      obtain ⟨A1, c1, rfl, _hc1, hl1, _⟩ := hv1
      have HS := Lib.hid (sumSz_take nodeSz l k x hx)
      clear hp HW hx
      by_cases hm : N ≤ 1048576
      · go_wp2_with (go_at_call 80; refine (nodeSize _ _ _ _ _ _ _ _ (by omega)).mono ?_; rintro e w1 ⟨M, rfl, ⟨hM0, hM1, hM2⟩, hb1⟩)
        go_wp2
        go_roundw
        case rel => exact ⟨k + 1, N + M, by omega, by go_num, rfl, by omega, by omega, Lib.hid (fun hh => by have h3 := hN.out (by omega); have h4 := hM2 (by omega); rw [HS.out]; simp only [nodeSz]; omega), hb.trans (hb1.mono hb.size)⟩
        case measure => simp [intOf]; omega
      · go_wp2
        go_ret
        exact ⟨N, rfl, ⟨h0, by omega, fun hh => absurd hh (by omega)⟩, hb⟩
    · go_wp2
      go_ret
      exact ⟨N, rfl, ⟨h0, by omega, fun hh => by have := hN.out hh; rw [List.take_of_length_le (by omega)] at this; rw [this]; simp [nodesSz]⟩, hb⟩

set_option maxHeartbeats 1000000 in
theorem statesSize (v : Value) (l : List StateP) (w : World) (hw : StatesV w w.heap.size v l) : Calls Tryz.prog 36 #[v] w (SomeSz 80000000000000 (statesSz l) w) := by
  obtain ⟨A, c, rfl, _hc, hl, hw⟩ := hw
  have hlim : l.length ≤ 17592186044416 := by unfold lim at hl; omega
  clear hl
  have HW := Lib.hid hw; clear hw
  go_enter Tryz.func36, Tryz.ntmps36
  go_wp2
  go_loopw [3, 4] (fun t i wr => ∃ (k : Nat) (N : Int), k ≤ l.length ∧ i = .int .i64 k ∧ t = .int .i64 N ∧ 0 ≤ N ∧ N ≤ 80000000000000 ∧ Hid (N ≤ 1048576 → N = l.length + sumSz stateSz (l.take k)) ∧ Below w.heap.size w wr) (fun _ i _ => l.length - (intOf i).toNat)
  case atStart => exact ⟨0, _, Nat.zero_le _, rfl, rfl, by omega, by omega, Lib.hid (fun _ => by simp [sumSz]), Below.refl _ _⟩
  case round =>
    obtain ⟨k, N, hk, rfl, rfl, h0, h1, hN, hb⟩ := hrel
    by_cases hlt : k < l.length
    · obtain ⟨b, off, rfl, hbB, hp⟩ := HW.out (by omega)
      obtain ⟨x, hx⟩ := getE hlt
      obtain ⟨f0, ⟨v1, f1, hv1⟩⟩ := (hp k x hx).keep (Same.of_below hb) hbB
      obtain ⟨A1, c1, rfl, _hc1, hl1, _⟩ := hv1
      have HS := Lib.hid (sumSz_take stateSz l k x hx)
      clear hp HW hx
      by_cases hm : N ≤ 1048576
      · go_wp2_with (go_at_call 82; refine (stateSize _ _ _ _ _ (by omega)).mono ?_; rintro e w1 ⟨M, rfl, ⟨hM0, hM1, hM2⟩, hb1⟩)
        go_wp2
        go_roundw
        case rel => exact ⟨k + 1, N + M, by omega, by go_num, rfl, by omega, by omega, Lib.hid (fun hh => by have h3 := hN.out (by omega); have h4 := hM2 (by omega); rw [HS.out]; simp only [stateSz]; omega), hb.trans (hb1.mono hb.size)⟩
        case measure => simp [intOf]; omega
      · go_wp2
        go_ret
        exact ⟨N, rfl, ⟨h0, by omega, fun hh => absurd hh (by omega)⟩, hb⟩
    · go_wp2
      go_ret
      exact ⟨N, rfl, ⟨h0, by omega, fun hh => by have := hN.out hh; rw [List.take_of_length_le (by omega)] at this; rw [this]; simp [statesSz]⟩, hb⟩

set_option maxHeartbeats 1000000 in
theorem blocksSize (v : Value) (l : List BlockP) (w : World) (hw : BlocksV w w.heap.size v l) : Calls Tryz.prog 35 #[v] w (SomeSz 80000000000000 (blocksSz l) w) := by
  obtain ⟨A, c, rfl, _hc, hl, hw⟩ := hw
  have hlim : l.length ≤ 17592186044416 := by unfold lim at hl; omega
  clear hl
  have HW := Lib.hid hw; clear hw
  go_enter Tryz.func35, Tryz.ntmps35
  go_wp2
  go_loopw [3, 4] (fun t i wr => ∃ (k : Nat) (N : Int), k ≤ l.length ∧ i = .int .i64 k ∧ t = .int .i64 N ∧ 0 ≤ N ∧ N ≤ 80000000000000 ∧ Hid (N ≤ 1048576 → N = l.length + sumSz blockSz (l.take k)) ∧ Below w.heap.size w wr) (fun _ i _ => l.length - (intOf i).toNat)
  case atStart => exact ⟨0, _, Nat.zero_le _, rfl, rfl, by omega, by omega, Lib.hid (fun _ => by simp [sumSz]), Below.refl _ _⟩
  case round =>
    obtain ⟨k, N, hk, rfl, rfl, h0, h1, hN, hb⟩ := hrel
    by_cases hlt : k < l.length
    · obtain ⟨b, off, rfl, hbB, hp⟩ := HW.out (by omega)
      obtain ⟨x, hx⟩ := getE hlt
      obtain ⟨⟨v0, f0, hv0⟩, f1, ⟨v2, f2, hv2⟩, ⟨v3, f3, hv3⟩, ⟨v4, f4, hv4⟩, f5⟩ := (hp k x hx).keep (Same.of_below hb) hbB
      obtain ⟨A0, c0, rfl, _hc0, hl0, _⟩ := hv0
      obtain ⟨A2, c2, rfl, _hc2, hl2, _⟩ := hv2
      obtain ⟨A3, c3, rfl, _hc3, hl3, _⟩ := hv3
      obtain ⟨A4, c4, rfl, _hc4, hl4, _⟩ := hv4
      have HS := Lib.hid (sumSz_take blockSz l k x hx)
      clear hp HW hx
      by_cases hm : N ≤ 1048576
      · go_wp2_with (go_at_call 81; refine (blockSize _ _ _ _ _ _ _ _ _ _ _ _ _ _ _ (by omega) (by omega) (by omega) (by omega)).mono ?_; rintro e w1 ⟨M, rfl, ⟨hM0, hM1, hM2⟩, hb1⟩)
        go_wp2
        go_roundw
        case rel => exact ⟨k + 1, N + M, by omega, by go_num, rfl, by omega, by omega, Lib.hid (fun hh => by have h3 := hN.out (by omega); have h4 := hM2 (by omega); rw [HS.out]; simp only [blockSz]; omega), hb.trans (hb1.mono hb.size)⟩
        case measure => simp [intOf]; omega
      · go_wp2
        go_ret
        exact ⟨N, rfl, ⟨h0, by omega, fun hh => absurd hh (by omega)⟩, hb⟩
    · go_wp2
      go_ret
      exact ⟨N, rfl, ⟨h0, by omega, fun hh => by have := hN.out hh; rw [List.take_of_length_le (by omega)] at this; rw [this]; simp [blocksSz]⟩, hb⟩

set_option maxHeartbeats 1000000 in
theorem graphSize (x : GVals) (g : GraphP) (w : World) (hg : GraphV w w.heap.size x g) : Calls Tryz.prog 11 #[gval g x] w (SomeSz 90000000000000 (graphSz g) w) := by
  obtain ⟨vn, vb, vs⟩ := x
  obtain ⟨h1, h2, h3⟩ := hg
  simp only at h1 h2 h3
  have H1 := Lib.hid h1; have H2 := Lib.hid h2; have H3 := Lib.hid h3
  clear h1 h2 h3
  unfold gval
  go_enter Tryz.func11, Tryz.ntmps11
  go_wp2_with fail
  have b0 : Below w.heap.size w (w.alloc (.cells #[.int .i64 g.fn, .int .i64 g.pc, .int .i64 g.slots, vn, vb, vs] 28)) := (Below.refl _ _).alloc (Nat.le_refl _) _
  refine (nodesSize vn g.nodes _ (NodesV.later H1.out b0 (Nat.le_refl _))).mono ?_
  rintro e w1 ⟨N1, rfl, ⟨hM0, hM1, hM2⟩, hb1⟩
  obtain ⟨hc1, hf1⟩ := bcell hb1
  have b1 := b0.trans (hb1.mono b0.size)
  go_wp2_with fail
  · refine (blocksSize vb g.blocks _ (BlocksV.later H2.out b1 (Nat.le_refl _))).mono ?_
    rintro e w2 ⟨N2, rfl, ⟨hN0, hN1, hN2⟩, hb2⟩
    have b2 := b1.trans (hb2.mono b1.size)
    obtain ⟨hc2, hf2⟩ := bcell (hb2.mono hb1.size)
    go_wp2_with fail
    · refine (statesSize vs g.states _ (StatesV.later H3.out b2 (Nat.le_refl _))).mono ?_
      rintro e w3 ⟨N3, rfl, ⟨hQ0, hQ1, hQ2⟩, hb3⟩
      go_wp2_with fail
      go_ret
      refine ⟨_, rfl, ⟨by omega, by omega, fun hh => ?_⟩, b2.trans (hb3.mono b2.size)⟩
      rw [hM2 (by omega), hN2 (by omega), hQ2 (by omega)]; simp only [graphSz]; omega
    · go_ret
      exact ⟨_, rfl, ⟨by omega, by omega, fun hh => by omega⟩, b2⟩
  · go_ret
    exact ⟨_, rfl, ⟨by omega, by omega, fun hh => by omega⟩, b1⟩
end Go.Proofs.YtkmfdiboekoioaaGreat
