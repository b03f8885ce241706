/- A graph that came in, read: its nodes, blocks and states. Conditions: the reach of the form (each slice of at most 2^47 bytes). -/
import Derived.Test.YtkmfdiboekoioaaOpen
namespace Go.Proofs.Ytkmfdiboekoioaa
open Go.ChangeShapes Go.WideShapes Go.Deep

instance : Inhabited NodeP := ⟨⟨0, [], 0, 0, 0⟩⟩
instance : Inhabited BlockP := ⟨⟨[], 0, [], [], [], 0⟩⟩
instance : Inhabited StateP := ⟨⟨0, []⟩⟩
theorem list5 {α : Type} {cs : List α} (h : cs.length = 5) : ∃ c0 c1 c2 c3 c4, cs = [c0, c1, c2, c3, c4] := by
  match cs, h with
  | [c0, c1, c2, c3, c4], _ => exact ⟨c0, c1, c2, c3, c4, rfl⟩
theorem list6 {α : Type} {cs : List α} (h : cs.length = 6) : ∃ c0 c1 c2 c3 c4 c5, cs = [c0, c1, c2, c3, c4, c5] := by
  match cs, h with
  | [c0, c1, c2, c3, c4, c5], _ => exact ⟨c0, c1, c2, c3, c4, c5, rfl⟩
theorem list2 {α : Type} {cs : List α} (h : cs.length = 2) : ∃ c0 c1, cs = [c0, c1] := by
  match cs, h with
  | [c0, c1], _ => exact ⟨c0, c1, rfl⟩
theorem one_eq {α : Type} {a b : α} (h : [a] = [b]) : a = b := by injection h
section
variable {H : Type} {enc : TypeId × Value → H} {W : World}
theorem node_read (b o : Nat) (cs : List Value) (n : Nat) (y : DataW H × List MemPlace) (_ : b < W.heap.size) (hlen : cs.length = 5) (hcell : ∀ k, k < 5 → W.cell? ⟨b, o + k, none⟩ = cs[k]?)
    (h : DataW.trod enc Try.prog W 0 (fun _ => true) true n 47 cs = some y) (hw : ∀ m ∈ y.1.weights Try.prog 47, m ≤ reachBytes) : ∃ z, NodeAt W W.heap.size b o z := by
  obtain ⟨c0, c1, c2, c3, c4, rfl⟩ := list5 hlen
  obtain ⟨n1, hf⟩ := struct_read Try.underlying47 (by kernel_rfl) h hw
  obtain ⟨y0, g0, _⟩ := hf 0 _ c0 rfl rfl
  obtain ⟨y1, g1, w1⟩ := hf 1 _ c1 rfl rfl
  obtain ⟨y2, g2, _⟩ := hf 2 _ c2 rfl rfl
  obtain ⟨y3, g3, _⟩ := hf 3 _ c3 rfl rfl
  obtain ⟨y4, g4, _⟩ := hf 4 _ c4 rfl rfl
  obtain ⟨a0, e0, _⟩ := DataW.trod_int Try.underlying44 g0
  obtain ⟨l1, i1⟩ := ints_read g1 w1
  obtain ⟨a2, e2, _⟩ := DataW.trod_int Try.underlying2 g2
  obtain ⟨a3, e3, _⟩ := DataW.trod_int Try.underlying45 g3
  obtain ⟨a4, e4, _⟩ := DataW.trod_int Try.underlying3 g4
  have q0 := one_eq e0; have q2 := one_eq e2; have q3 := one_eq e3; have q4 := one_eq e4
  subst q0 q2 q3 q4
  exact ⟨⟨a0, l1, a2, a3, a4⟩, hcell 0 (by omega), ⟨c1, hcell 1 (by omega), i1⟩, hcell 2 (by omega), hcell 3 (by omega), hcell 4 (by omega)⟩
theorem block_read (b o : Nat) (cs : List Value) (n : Nat) (y : DataW H × List MemPlace) (_ : b < W.heap.size) (hlen : cs.length = 6) (hcell : ∀ k, k < 6 → W.cell? ⟨b, o + k, none⟩ = cs[k]?)
    (h : DataW.trod enc Try.prog W 0 (fun _ => true) true n 50 cs = some y) (hw : ∀ m ∈ y.1.weights Try.prog 50, m ≤ reachBytes) : ∃ z, BlockAt W W.heap.size b o z := by
  obtain ⟨c0, c1, c2, c3, c4, c5, rfl⟩ := list6 hlen
  obtain ⟨n1, hf⟩ := struct_read Try.underlying50 (by kernel_rfl) h hw
  obtain ⟨y0, g0, w0⟩ := hf 0 _ c0 rfl rfl
  obtain ⟨y1, g1, _⟩ := hf 1 _ c1 rfl rfl
  obtain ⟨y2, g2, w2⟩ := hf 2 _ c2 rfl rfl
  obtain ⟨y3, g3, w3⟩ := hf 3 _ c3 rfl rfl
  obtain ⟨y4, g4, w4⟩ := hf 4 _ c4 rfl rfl
  obtain ⟨y5, g5, _⟩ := hf 5 _ c5 rfl rfl
  obtain ⟨l0, i0⟩ := ints_read g0 w0
  obtain ⟨a1, e1, _⟩ := DataW.trod_int Try.underlying48 g1
  obtain ⟨l2, i2⟩ := ints_read g2 w2
  obtain ⟨l3, i3⟩ := ints_read g3 w3
  obtain ⟨l4, i4⟩ := ints_read g4 w4
  obtain ⟨a5, e5, _⟩ := DataW.trod_int Try.underlying3 g5
  have q1 := one_eq e1; have q5 := one_eq e5
  subst q1 q5
  exact ⟨⟨l0, a1, l2, l3, l4, a5⟩, ⟨c0, hcell 0 (by omega), i0⟩, hcell 1 (by omega), ⟨c2, hcell 2 (by omega), i2⟩, ⟨c3, hcell 3 (by omega), i3⟩, ⟨c4, hcell 4 (by omega), i4⟩, hcell 5 (by omega)⟩
theorem state_read (b o : Nat) (cs : List Value) (n : Nat) (y : DataW H × List MemPlace) (_ : b < W.heap.size) (hlen : cs.length = 2) (hcell : ∀ k, k < 2 → W.cell? ⟨b, o + k, none⟩ = cs[k]?)
    (h : DataW.trod enc Try.prog W 0 (fun _ => true) true n 52 cs = some y) (hw : ∀ m ∈ y.1.weights Try.prog 52, m ≤ reachBytes) : ∃ z, StateAt W W.heap.size b o z := by
  obtain ⟨c0, c1, rfl⟩ := list2 hlen
  obtain ⟨n1, hf⟩ := struct_read Try.underlying52 (by kernel_rfl) h hw
  obtain ⟨y0, g0, _⟩ := hf 0 _ c0 rfl rfl
  obtain ⟨y1, g1, w1⟩ := hf 1 _ c1 rfl rfl
  obtain ⟨a0, e0, _⟩ := DataW.trod_int Try.underlying3 g0
  obtain ⟨l1, i1⟩ := ints_read g1 w1
  have q0 := one_eq e0
  subst q0
  exact ⟨⟨a0, l1⟩, hcell 0 (by omega), ⟨c1, hcell 1 (by omega), i1⟩⟩
set_option maxRecDepth 100000 in
theorem graph_read {r : Reach} {b0 : Nat} {v : Value} {d : DataW H} {p : List MemPlace} (hv : Value.okWide Try.prog W r b0 26 v) (h : DataW.Trod enc Try.prog W 0 (fun _ => true) true 26 v d p)
    (hw : ∀ n ∈ d.weights Try.prog 26, n ≤ reachBytes) : ∃ g xv, v = gval g xv ∧ GraphV W W.heap.size xv g := by
  obtain ⟨cs, rfl, hsz⟩ := okWide_struct Try.underlying26 hv
  have hC : Try.prog.cellsOf 26 = 6 := by kernel_rfl
  obtain ⟨fuel, hf⟩ := h
  have hf' : DataW.trod enc Try.prog W 0 (fun _ => true) true fuel 26 cs.toList = some (d, p) := by simpa [Value.cells] using hf
  obtain ⟨c0, c1, c2, c3, c4, c5, hcs⟩ := list6 (cs := cs.toList) (by rw [Array.length_toList, hsz, hC])
  rw [hcs] at hf'
  have ecs : cs = #[c0, c1, c2, c3, c4, c5] := by
    have := congrArg List.toArray hcs
    simpa using this
  subst ecs
  obtain ⟨n1, hq⟩ := struct_read Try.underlying26 (by kernel_rfl) hf' hw
  obtain ⟨y0, g0, _⟩ := hq 0 _ c0 rfl rfl
  obtain ⟨y1, g1, _⟩ := hq 1 _ c1 rfl rfl
  obtain ⟨y2, g2, _⟩ := hq 2 _ c2 rfl rfl
  obtain ⟨y3, g3, w3⟩ := hq 3 _ c3 rfl rfl
  obtain ⟨y4, g4, w4⟩ := hq 4 _ c4 rfl rfl
  obtain ⟨y5, g5, w5⟩ := hq 5 _ c5 rfl rfl
  obtain ⟨a0, e0, _⟩ := DataW.trod_int Try.underlying3 g0
  obtain ⟨a1, e1, _⟩ := DataW.trod_int Try.underlying3 g1
  obtain ⟨a2, e2, _⟩ := DataW.trod_int Try.underlying3 g2
  have q0 := one_eq e0; have q1 := one_eq e1; have q2 := one_eq e2
  subst q0 q1 q2
  obtain ⟨ln, hn⟩ := parts_read (At := NodeAt W W.heap.size) (size := 5) Try.underlying22 (by kernel_rfl) (by omega) (of_decide_eq_true (by kernel_rfl)) g3 w3 node_read
  obtain ⟨lb, hb⟩ := parts_read (At := BlockAt W W.heap.size) (size := 6) Try.underlying23 (by kernel_rfl) (by omega) (of_decide_eq_true (by kernel_rfl)) g4 w4 block_read
  obtain ⟨ls, hs⟩ := parts_read (At := StateAt W W.heap.size) (size := 2) Try.underlying24 (by kernel_rfl) (by omega) (of_decide_eq_true (by kernel_rfl)) g5 w5 state_read
  exact ⟨⟨a0, a1, a2, ln, lb, ls⟩, ⟨c3, c4, c5⟩, rfl, hn, hb, hs⟩
end
end Go.Proofs.Ytkmfdiboekoioaa
