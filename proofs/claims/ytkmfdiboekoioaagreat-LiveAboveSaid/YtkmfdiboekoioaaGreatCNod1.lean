/- graph.Nodes: the nodes of a graph with their blocks and places, as an iterator that a loop ranges over. Conditions: the loop's body keeps the cells of the blocks S, in which the graph lies. -/
import Derived.Test.YtkmfdiboekoioaaGreatCAbove
set_option linter.unusedSimpArgs false
set_option linter.unusedVariables false
namespace Go.Proofs.YtkmfdiboekoioaaGreat
open Go.RowKit Go.Shelf
attribute [local go_sem] Oper.semAt_some

/-- A node in its block and place. -/
abbrev Spot1 := (Nat × Nat) × Int
def nodesOf (g : GraphP) (b : Nat) : List Int := match g.blocks[b]? with | some x => x.nodes | none => []
def rowTo (b : Nat) (l : List Int) (k : Nat) : List Spot1 := (List.range k).map (fun i => ((b, i), l[i]?.getD 0))
theorem rowTo_succ (b : Nat) (l : List Int) (k : Nat) : rowTo b l (k + 1) = rowTo b l k ++ [((b, k), l[k]?.getD 0)] := by simp [rowTo, List.range_succ]
def allTo (g : GraphP) : Nat → List Spot1
  | 0 => []
  | k + 1 => allTo g k ++ rowTo k (nodesOf g k) (nodesOf g k).length
theorem rowTo_len (b : Nat) (l : List Int) (k : Nat) : (rowTo b l k).length = k := by simp [rowTo]
theorem allTo_mono (g : GraphP) {a b : Nat} (h : a ≤ b) : (allTo g a).length ≤ (allTo g b).length := by
  induction h with
  | refl => exact Nat.le_refl _
  | step _ ih => refine Nat.le_trans ih ?_; simp [allTo]
theorem allTo_lt (g : GraphP) {k j B : Nat} {x : BlockP} (hx : g.blocks[k]? = some x) (hk : k < B) (hj : j < x.nodes.length) : (allTo g k ++ rowTo k x.nodes j).length < (allTo g B).length := by
  refine Nat.lt_of_lt_of_le ?_ (allTo_mono g (show k + 1 ≤ B by omega))
  have e : nodesOf g k = x.nodes := by unfold nodesOf; rw [hx]
  rw [List.length_append, rowTo_len, allTo, List.length_append, rowTo_len, e]
  omega
theorem mem_rowTo {b k : Nat} {l : List Int} {z : Spot1} : z ∈ rowTo b l k ↔ z.1.1 = b ∧ z.1.2 < k ∧ z.2 = l[z.1.2]?.getD 0 := by
  unfold rowTo
  rw [List.mem_map]
  constructor
  · rintro ⟨i, hi, rfl⟩
    exact ⟨rfl, List.mem_range.1 hi, rfl⟩
  · rintro ⟨h1, h2, h3⟩
    obtain ⟨⟨a, i⟩, n⟩ := z
    simp only at h1 h2 h3
    subst h1 h3
    exact ⟨i, List.mem_range.2 h2, rfl⟩
theorem mem_allTo {g : GraphP} {k : Nat} {z : Spot1} : z ∈ allTo g k ↔ z.1.1 < k ∧ (nodesOf g z.1.1)[z.1.2]? = some z.2 := by
  induction k with
  | zero => simp [allTo]
  | succ k ih =>
    rw [allTo, List.mem_append, ih, mem_rowTo]
    constructor
    · rintro (⟨h1, h2⟩ | ⟨h1, h2, h3⟩)
      · exact ⟨by omega, h2⟩
      · rw [h1]
        exact ⟨by omega, by rw [h3, List.getElem?_eq_getElem h2]; rfl⟩
    · rintro ⟨h1, h2⟩
      by_cases e : z.1.1 = k
      · right
        rw [e] at h2
        exact ⟨e, (List.getElem?_eq_some_iff.1 h2).1, by rw [h2]; rfl⟩
      · exact .inl ⟨by omega, h2⟩
section
variable {S : Nat → Prop} {A B : World}
theorem BlocksV.keepS {n : Nat} {v : Value} {l : List BlockP} (h : BlocksV A n v l) (hk : KeepS S A B) (hS : ∀ k, k < n → S k) : BlocksV B n v l :=
  h.imp (Nat.le_refl _) fun b o x hb h => by
    obtain ⟨⟨u0, g0, i0⟩, g1, ⟨u2, g2, i2⟩, ⟨u3, g3, i3⟩, ⟨u4, g4, i4⟩, g5⟩ := h
    exact ⟨⟨u0, hk _ _ (hS b hb) g0, i0.keepS hk hS⟩, hk _ _ (hS b hb) g1, ⟨u2, hk _ _ (hS b hb) g2, i2.keepS hk hS⟩, ⟨u3, hk _ _ (hS b hb) g3, i3.keepS hk hS⟩, ⟨u4, hk _ _ (hS b hb) g4, i4.keepS hk hS⟩, hk _ _ (hS b hb) g5⟩
theorem KeepS.alloc (S : Nat → Prop) (W : World) (o : Obj) : KeepS S W (W.alloc o) := KeepS.grown (World.grownBy_alloc W o none) (fun r e => by cases e)
end
def spotEnc (x : Spot1) : Array Value := #[.agg #[.int .i64 (x.1.1 : Int), .int .i64 (x.1.2 : Int)], .int .i64 x.2]
set_option maxRecDepth 100000 in
set_option maxHeartbeats 4000000 in
theorem nodes1_in (F : Fence) (n : Nat) (h8 : F.fn 133) (hro : F.round = none) (hn : 1 ≤ n) (l Bg n₀ : Nat) (S : Nat → Prop) (hS : ∀ k, k < n₀ → S k) (hSB : S Bg) (vb : Value) (g : GraphP) (J Jx : List Spot1 → World → Prop)
    (hJ : ∀ pre W o, J pre W → J pre (W.alloc o))
    (hY : ∀ pre x W, J pre W → pre.length < (allTo g g.blocks.length).length → YieldAt F (n - 1) Tryz.prog l (spotEnc x) W fun e W' =>
      (e = .returned (.bool true) ∧ J (pre ++ [x]) W' ∧ KeepS S W W') ∨ (e = .returned (.bool false) ∧ Jx (pre ++ [x]) W'))
    (W : World) (hBg : W.cell? ⟨Bg, 4, none⟩ = some vb) (hI : BlocksV W n₀ vb g.blocks) (h0 : J [] W) :
    CallsIn F n Tryz.prog 133 #[.func (.yield l) #[] #[], .pointer (some ⟨Bg, 0, none⟩)] W fun e W' => (∃ v, e = .returned v) ∧
      (J (allTo g g.blocks.length) W' ∨ (∃ pre, Jx pre W')) := by
  have HI := Lib.hid hI; have HY := Lib.hid hY; have HJ := Lib.hid hJ
  obtain ⟨A, c, rfl, _, hlim, _⟩ := hI
  have hl0 : g.blocks.length ≤ 17592186044416 := by unfold lim at hlim; omega
  clear hY hJ
  refine callsIn_of_wp Tryz.func133 rfl h8 ?_ hro
  simp only [Tryz.ntmps133, List.size_toArray, List.length_cons, List.length_nil, Nat.reduceAdd, Nat.reduceSub, Array.replicate_succ, Array.replicate_zero, List.push_toArray, List.append_toArray, List.nil_append, List.cons_append]
  gi_wp2
  clear hBg
  gi_loopw [10] (fun i wr => ∃ k : Nat, k ≤ g.blocks.length ∧ i = .int .i64 k ∧ Hid (J (allTo g k) wr) ∧ Hid (KeepS S W wr))
    (fun i _ => g.blocks.length - (intOf i).toNat)
  case atStart => exact ⟨0, Nat.zero_le _, rfl, Lib.hid h0, Lib.hid (KeepS.refl _ _)⟩
  case round =>
    obtain ⟨k, hk, rfl, HJs, HK⟩ := hrel
    obtain ⟨wo, rfl⟩ : ∃ wo : World, wo = wr := ⟨_, rfl⟩
    by_cases hlt : k < g.blocks.length
    · obtain ⟨A', c', e1, _, _, hp⟩ := BlocksV.keepS HI.out HK.out hS
      injection e1 with e1 e2 e3
      obtain ⟨b, off, e4, hbB, hp⟩ := hp (by omega)
      rw [← e1] at e4
      subst e4
      obtain ⟨x, hx⟩ := getE hlt
      obtain ⟨⟨u0, g0, i0⟩, g1, ⟨u2, g2, i2⟩, ⟨u3, g3, i3⟩, ⟨u4, g4, i4⟩, g5⟩ := hp k x hx
      have HI0 := Lib.hid i0
      obtain ⟨A0, d0, rfl, _, q0, _⟩ := i0
      obtain ⟨A2, d2, rfl, _⟩ := i2
      obtain ⟨A3, d3, rfl, _⟩ := i3
      obtain ⟨A4, d4, rfl, _⟩ := i4
      have hl1 : x.nodes.length ≤ 17592186044416 := by unfold lim at q0; omega
      have HX := Lib.hid hx
      obtain ⟨w8, hw8⟩ : ∃ w8, w8 = wo.alloc (.cells #[.slice A0 x.nodes.length d0, .int .u8 x.fin, .slice A2 x.args.length d2, .slice A3 x.next.length d3, .slice A4 x.ahead.length d4, .int .i64 x.state] 41) := ⟨_, rfl⟩
      have HJ8 : Hid (J (allTo g k) w8) := Lib.hid (by rw [hw8]; exact HJ.out _ _ _ HJs.out)
      have HK8 : Hid (KeepS S wo w8) := Lib.hid (by rw [hw8]; exact KeepS.alloc _ _ _)
      have hb : w8.cell? ⟨wo.heap.size, 0, none⟩ = some (.slice A0 x.nodes.length d0) := by rw [hw8]; exact (Blk.new _ _ _).cell 0
      have hbl : wo.heap.size < w8.heap.size := by rw [hw8]; simp
      clear hp hx e1 e2 e3 q0
      gi_upto_region 3 with fail
      rw [← hw8]
      clear hw8 g0 g1 g2 g3 g4 g5
      gi_upto_region 4 with fail
      gi_loopw [18] (fun i wq => ∃ j : Nat, j ≤ x.nodes.length ∧ i = .int .i64 j ∧ Hid (J (allTo g k ++ rowTo k x.nodes j) wq) ∧ Hid (KeepS S wo wq))
        (fun i _ => x.nodes.length - (intOf i).toNat)
      case atStart => exact ⟨0, Nat.zero_le _, rfl, Lib.hid (by rw [show allTo g k ++ rowTo k x.nodes 0 = allTo g k by simp [rowTo]]; exact HJ8.out), HK8⟩
      case round =>
        obtain ⟨j, hj, rfl, HJq, HKq⟩ := hrel
        by_cases hlj : j < x.nodes.length
        · obtain ⟨bn, on, rfl, hbn, hpn⟩ := (HI0.out.keepS HKq.out hS).cells hlj
          obtain ⟨z, hz⟩ := getE hlj
          have fz := hpn j z hz
          have hzD : x.nodes[j]?.getD 0 = z := by rw [hz]; rfl
          have HZ := Lib.hid hzD
          obtain ⟨fn, tmps, assign, body, hy, hR⟩ := HY.out _ ((k, j), z) wr HJq.out (allTo_lt g HX.out hlt hlj)
          dsimp only [spotEnc] at hy
          clear hpn hz hzD
          gi_wp2
          refine hR.mono ?_
          rintro e W3 (⟨rfl, hJ3, hk3⟩ | ⟨rfl, hJx3⟩)
          · have HJ3 := Lib.hid hJ3; have HK3 := Lib.hid hk3
            clear hJ3 hk3
            gi_wp2
            go_roundw
            case rel => exact ⟨j + 1, by omega, by go_num, Lib.hid (by rw [rowTo_succ, HZ.out, ← List.append_assoc]; exact HJ3.out), Lib.hid (HKq.out.trans HK3.out)⟩
            case measure => simp [intOf]; omega
          · gi_wp2
            refine bodyPost_ret (results_none rfl _ _ _) rfl ?_
            exact ⟨⟨_, rfl⟩, .inr ⟨_, hJx3⟩⟩
        · have ej : j = x.nodes.length := by omega
          subst ej
          gi_wp2
          go_roundw
          case rel =>
            refine ⟨k + 1, by omega, by go_num, Lib.hid ?_, Lib.hid (HK.out.trans HKq.out)⟩
            have e : nodesOf g k = x.nodes := by unfold nodesOf; rw [HX.out]
            rw [allTo, e]
            exact HJq.out
          case measure => simp [intOf]; omega
    · obtain rfl : k = g.blocks.length := by omega
      gi_wp2
      go_end0
      exact ⟨⟨_, rfl⟩, .inl HJs.out⟩
theorem nodes_stops (F : Fence) (n : Nat) (h7 : F.fn 133) (hro : F.round = none) (hn : 1 ≤ n) (Bg n₀ : Nat) (S : Nat → Prop) (hS : ∀ k, k < n₀ → S k) (hSB : S Bg) (vb : Value) (g : GraphP) (w : World) (hBg : Bg < w.heap.size) (hn₀ : n₀ ≤ w.heap.size)
    (hc : w.cell? ⟨Bg, 4, none⟩ = some vb) (hI : BlocksV w n₀ vb g.blocks) :
    SeqStopsK F n Tryz.prog 133 #[.pointer (some ⟨Bg, 0, none⟩)] spotEnc (KeepS S) (fun ys => ys = allTo g g.blocks.length) (fun _ => True) (allTo g g.blocks.length).length w := fun l J Jx W hW hJ _ hY h0 => by
  have hc' := (hW.cell (p := ⟨Bg, 4, none⟩) hBg).trans hc
  refine (nodes1_in F n h7 hro hn l Bg n₀ S hS hSB vb g J Jx (fun pre W o h => hJ pre W _ none h (World.grownBy_alloc W o none) (fun r e => by cases e)) hY W hc' (hI.keep (Same.of_below (hW.mono hn₀))) h0).mono ?_
  rintro e W' ⟨he, hj | ⟨pre, hj⟩⟩
  · exact ⟨he, .inl ⟨_, rfl, hj⟩⟩
  · exact ⟨he, .inr ⟨_, trivial, hj⟩⟩
set_option maxHeartbeats 1000000 in
theorem nodes_in (F : Fence) (n : Nat) (h5 : F.fn 88) (hro : F.round = none) (g : GraphP) (xv : GVals) (w : World) :
    CallsIn F n Tryz.prog 88 #[gval g xv] w fun e w' => e = .returned (.func (.func 133) #[] #[.pointer (some ⟨w.heap.size, 0, none⟩)]) ∧ w' = w.alloc (.cells (gbox g xv) 28) := by
  unfold gval
  refine callsIn_of_wp Tryz.func88 rfl h5 ?_ hro
  simp only [Tryz.ntmps88, List.size_toArray, List.length_cons, List.length_nil, Nat.reduceAdd, Nat.reduceSub, Array.replicate_succ, Array.replicate_zero, List.push_toArray, List.append_toArray, List.nil_append, List.cons_append]
  gi_wp2
  go_ret
  exact ⟨rfl, rfl⟩
end Go.Proofs.YtkmfdiboekoioaaGreat
