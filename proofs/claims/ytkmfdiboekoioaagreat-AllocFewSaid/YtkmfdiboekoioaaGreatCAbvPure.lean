/- What is live at a block's beginning stands in a block above it. Conditions: the facts of a graph that may be. -/
import Derived.Test.YtkmfdiboekoioaaGreatCAbove
import Derived.Test.YtkmfdiboekoioaaGreatCDo
set_option linter.unusedSimpArgs false
set_option linter.unusedVariables false
namespace Go.Proofs.YtkmfdiboekoioaaGreat
open Go.RowKit

/-- Each node stands in just one place. -/
structure Places (g : GraphP) (A : Nat → Nat × Nat) : Prop where
 put : ∀ (b : Nat) x (i : Nat) n, g.blocks[b]? = some x → x.nodes[i]? = some n → ∃ k : Nat, n = (k : Int) ∧ k < g.nodes.length ∧ A k = (b, i)
 has : ∀ k : Nat, k < g.nodes.length → ∃ x, g.blocks[(A k).1]? = some x ∧ x.nodes[(A k).2]? = some (k : Int)
/-- A node stands ahead of a place. -/
def standsP (g : GraphP) (A : Nat → Nat × Nat) (n : Int) (b i : Nat) : Prop := 0 ≤ n ∧ n < (g.nodes.length : Int) ∧ (((A n.toNat).1 = b ∧ (A n.toNat).2 < i) ∨ ((A n.toNat).1 ≠ b ∧ abv g (A n.toNat).1 b))
/-- What a graph that may be is sure to be. -/
structure GOk (g : GraphP) (A : Nat → Nat × Nat) : Prop where
 pos : 0 < g.blocks.length
 pl : Places g A
 next : ∀ (b : Nat) x, g.blocks[b]? = some x → ∀ n ∈ x.next, 1 ≤ n ∧ n < (g.blocks.length : Int)
 phi : ∀ (n : Nat) y, g.nodes[n]? = some y → y.op = 2 → ∀ x, g.blocks[(A n).1]? = some x → ∀ (i : Nat) a c, y.args[i]? = some a → x.ahead[i]? = some c → ∃ z, g.blocks[c.toNat]? = some z ∧ 0 ≤ c ∧ standsP g A a c.toNat z.nodes.length
 node : ∀ (n : Nat) y, g.nodes[n]? = some y → y.op ≠ 2 → (∀ a ∈ y.args, standsP g A a (A n).1 (A n).2) ∧ ∀ s ∈ slotsOf g y.state, 0 ≤ s → standsP g A s (A n).1 (A n).2
 fin : ∀ (b : Nat) x, g.blocks[b]? = some x → (∀ a ∈ x.args, standsP g A a b x.nodes.length) ∧ ∀ s ∈ slotsOf g x.state, 0 ≤ s → standsP g A s b x.nodes.length

theorem abv_edge {g : GraphP} {a b c : Nat} {x : BlockP} (hx : g.blocks[b]? = some x) (hc : (c : Int) ∈ x.next) (hl : c < g.blocks.length) (hne : a ≠ c) (h : abv g a c) : abv g a b := by
 have hn : (c : Int) ∈ nextOf g (b : Int) := by unfold nextOf; rw [blockAt_nat, hx]; exact hc
 rcases h with h | h | h
 ·exact .inl fun hr => h (hr.snoc hn ⟨by omega, by omega, by omega⟩)
 ·exact absurd h hne
 ·exact .inr (.inr fun hr => h (hr.snoc hn ⟨by omega, by omega, by omega⟩))
theorem add_true {p : ISet} {N : Nat} {l : List Int} {z : Int} (h : p.add N l z = true) : p z = true ∨ (0 ≤ z ∧ z < (N : Int) ∧ z ∈ l) := by
 simp only [ISet.add, Bool.or_eq_true, Bool.and_eq_true, decide_eq_true_eq, List.contains_iff_mem] at h
 rcases h with h | ⟨⟨h1, h2⟩, h3⟩
 ·exact .inl h
 ·exact .inr ⟨h1, h2, h3⟩
theorem dels_true : ∀ {l : List Int} {p : ISet} {z : Int}, l.foldl ISet.del p z = true → p z = true ∧ z ∉ l
 | [], _, _, h => ⟨h, by simp⟩
 | n :: l, p, z, h => by
  obtain ⟨h1, h2⟩ := dels_true (l := l) h
  simp only [ISet.del, Bool.and_eq_true, Bool.not_eq_true', beq_eq_false_iff_ne] at h1
  exact ⟨h1.1, by simp; exact ⟨h1.2, h2⟩⟩
theorem uses_true (g : GraphP) : ∀ {l : List Int} {p : ISet} {z : Int}, l.foldl (nodeUse g) p z = true → p z = true ∨ (0 ≤ z ∧ ∃ n ∈ l, ∃ y, nodeAt g n = some y ∧ y.op ≠ 2 ∧ (z ∈ y.args ∨ z ∈ slotsOf g y.state))
 | [], _, _, h => .inl h
 | n :: l, p, z, h => by
  rcases uses_true g (l := l) h with h | ⟨h0, m, hm, y, h1, h2, h3⟩
  ·cases hn : nodeAt g n with
   | none => rw [nodeUse_none hn] at h; exact .inl h
   | some y =>
    by_cases ho : y.op = 2
    ·rw [nodeUse_phi hn ho] at h; exact .inl h
    ·rw [nodeUse_some hn ho] at h
     rcases add_true h with h | ⟨h0, _, h1⟩
     ·rcases add_true h with h | ⟨h0, _, h1⟩
      ·exact .inl h
      ·exact .inr ⟨h0, n, by simp, y, hn, ho, .inl h1⟩
     ·exact .inr ⟨h0, n, by simp, y, hn, ho, .inr h1⟩
  ·exact .inr ⟨h0, m, by simp [hm], y, h1, h2, h3⟩
theorem outs_true (g : GraphP) (I : Sets) (b : Int) : ∀ {l : List Int} {p : ISet} {z : Int}, l.foldl (outStep g I b) p z = true → p z = true ∨ ∃ n ∈ l, ∃ y, blockAt g n = some y ∧ (z ∈ listOf g.nodes.length (I.at_ n.toNat) ∨ z ∈ phisOf g y b)
 | [], _, _, h => .inl h
 | n :: l, p, z, h => by
  rcases outs_true g I b (l := l) h with h | ⟨m, hm, y, h1, h2⟩
  ·cases hn : blockAt g n with
   | none => rw [outStep_none hn] at h; exact .inl h
   | some y =>
    rw [outStep_some hn] at h
    rcases add_true h with h | ⟨_, _, h1⟩
    ·rcases add_true h with h | ⟨_, _, h1⟩
     ·exact .inl h
     ·exact .inr ⟨n, by simp, y, hn, .inl h1⟩
    ·exact .inr ⟨n, by simp, y, hn, .inr h1⟩
  ·exact .inr ⟨m, by simp [hm], y, h1, h2⟩
theorem phis_true {g : GraphP} {x : BlockP} {b z : Int} (h : z ∈ phisOf g x b) : ∃ n ∈ x.nodes, ∃ y, nodeAt g n = some y ∧ y.op = 2 ∧ ∃ i : Nat, y.args[i]? = some z ∧ x.ahead[i]? = some b := by
 unfold phisOf at h
 obtain ⟨n, hn, hz⟩ := List.mem_flatMap.1 h
 cases hy : nodeAt g n with
 | none => rw [phiPart_none hy] at hz; cases hz
 | some y =>
  by_cases ho : y.op = 2
  ·rw [phiPart_phi hy ho] at hz
   unfold phiArgs at hz
   obtain ⟨⟨a, i⟩, hp, rfl⟩ := List.mem_map.1 hz
   obtain ⟨hm, hf⟩ := List.mem_filter.1 hp
   simp only [beq_iff_eq] at hf
   have := List.mem_zipIdx_iff_getElem?.1 hm
   exact ⟨n, hn, y, hy, ho, i, this, hf⟩
  ·rw [phiPart_other hy ho] at hz; cases hz

open Classical in
noncomputable def aboveS (g : GraphP) (A : Nat → Nat × Nat) : Sets := fun b => some fun z => decide (0 ≤ z ∧ z < (g.nodes.length : Int) ∧ (A z.toNat).1 ≠ b ∧ abv g (A z.toNat).1 b)
open Classical in
noncomputable def aboveQ (g : GraphP) (A : Nat → Nat × Nat) : Sets := fun b => some fun z => decide (0 ≤ z ∧ z < (g.nodes.length : Int) ∧ ((A z.toNat).1 = b ∨ abv g (A z.toNat).1 b))
theorem standsP.q {g : GraphP} {A : Nat → Nat × Nat} {z : Int} {b i : Nat} (h : standsP g A z b i) : (aboveQ g A).at_ b z = true := by
 obtain ⟨h0, h1, h2⟩ := h
 simp only [aboveQ, Sets.at_, Option.getD_some, decide_eq_true_eq]
 refine ⟨h0, h1, ?_⟩
 rcases h2 with h2 | h2
 ·exact .inl h2.1
 ·exact .inr h2.2
theorem live_above {g : GraphP} {A : Nat → Nat × Nat} (h : GOk g A) {I O : Sets} (hl : LiveIs g I O) (b : Nat) (n : Int) (hn : I.at_ b n = true) :
  ∃ k : Nat, n = (k : Int) ∧ k < g.nodes.length ∧ (A k).1 ≠ b ∧ abv g (A k).1 b := by
 have key := (hl.least (aboveS g A) (aboveQ g A) fun b x hx => ⟨fun z hz => ?_, fun z hz => ?_⟩).1 b n hn
 ·simp only [aboveS, Sets.at_, Option.getD_some, decide_eq_true_eq] at key
  obtain ⟨h0, h1, h2⟩ := key
  exact ⟨n.toNat, by omega, by omega, h2⟩
 ·unfold outF at hz
  rcases outs_true g _ _ hz with hz | ⟨m, hm, y, hy, hz⟩
  ·cases hz
  ·obtain ⟨m1, m2⟩ := h.next b x hx m hm
   obtain ⟨c, rfl⟩ : ∃ c : Nat, m = (c : Int) := ⟨m.toNat, by omega⟩
   rw [blockAt_nat] at hy
   rcases hz with hz | hz
   ·rw [mem_listOf (fun z hz => by
     simp only [aboveS, Sets.at_, Option.getD_some, decide_eq_true_eq] at hz
     exact ⟨hz.1, hz.2.1⟩)] at hz
    simp only [aboveS, Sets.at_, Option.getD_some, decide_eq_true_eq, Int.toNat_natCast] at hz
    simp only [aboveQ, Sets.at_, Option.getD_some, decide_eq_true_eq]
    exact ⟨hz.1, hz.2.1, .inr (abv_edge hx hm (by omega) hz.2.2.1 hz.2.2.2)⟩
   ·obtain ⟨k, hk, w, hw, ho, i, ha, hc⟩ := phis_true hz
    obtain ⟨j, hj⟩ := List.mem_iff_getElem?.1 hk
    obtain ⟨q, rfl, hq, hA⟩ := h.pl.put c y j k hy hj
    rw [nodeAt_nat] at hw
    obtain ⟨z', hz', _, hs⟩ := h.phi q w hw ho y (by rw [hA]; exact hy) i z _ ha hc
    exact standsP.q hs
 ·unfold inF at hz
  obtain ⟨hz, hnot⟩ := dels_true hz
  have hQ : (aboveQ g A).at_ b z = true := by
   rcases uses_true g hz with hz | ⟨h0, m, hm, y, hy, ho, hz⟩
   ·rcases add_true hz with hz | ⟨h0, _, hz⟩
    ·rcases add_true hz with hz | ⟨h0, _, hz⟩
     ·exact hz
     ·exact standsP.q ((h.fin b x hx).1 z hz)
    ·exact standsP.q ((h.fin b x hx).2 z hz h0)
   ·obtain ⟨j, hj⟩ := List.mem_iff_getElem?.1 hm
    obtain ⟨q, rfl, hq, hA⟩ := h.pl.put b x j m hx hj
    rw [nodeAt_nat] at hy
    have := h.node q y hy ho
    rw [hA] at this
    rcases hz with hz | hz
    ·exact standsP.q (this.1 z hz)
    ·exact standsP.q (this.2 z hz h0)
  simp only [aboveQ, Sets.at_, Option.getD_some, decide_eq_true_eq] at hQ
  simp only [aboveS, Sets.at_, Option.getD_some, decide_eq_true_eq]
  refine ⟨hQ.1, hQ.2.1, ?_⟩
  have hne : (A z.toNat).1 ≠ b := fun e => by
   obtain ⟨x', hx', hi⟩ := h.pl.has z.toNat (by omega)
   rw [e, hx] at hx'
   injection hx' with hx'
   subst hx'
   have hzz : ((z.toNat : Nat) : Int) = z := by omega
   rw [hzz] at hi
   exact hnot (List.mem_of_getElem? hi)
  exact ⟨hne, hQ.2.2.resolve_left hne⟩
end Go.Proofs.YtkmfdiboekoioaaGreat

/- The chapter's graph, as gearboxlaw16.Sum makes it. No condition. -/
namespace Go.Proofs.YtkmfdiboekoioaaGreat
open Go.RowKit
def sumG : GraphP := ⟨0, 0, 0, [⟨4, [], 1, 2, -1⟩, ⟨4, [], 2, 2, -1⟩, ⟨15, [0, 1], 1, 0, 0⟩, ⟨23, [2], 0, 0, 1⟩, ⟨4, [], 0, 0, -1⟩], [⟨[0, 1, 2, 3, 4], 4, [4], [], [], -1⟩], [⟨2, [0, 1]⟩, ⟨3, [2]⟩]⟩
def SumIs (w : World) (e : Ending) (w' : World) : Prop := ∃ xv, e = .returned (gval sumG xv) ∧ GraphV w' w'.heap.size xv sumG ∧ Below w.heap.size w w'
theorem ints_blk {w : World} {b c k B : Nat} {t : TypeId} {cs : Array Value} {l : List Int} (h : Blk w b t cs) (hb : b < B) (hl : l.length = k) (hc : k ≤ c) (hm : k ≤ lim) (he : ∀ (j : Nat) (x : Int), l[j]? = some x → cs[j]? = some (Value.int .i64 x)) : IntsV w B (.slice (some ⟨b, 0, none⟩) k c) l := by
 subst hl
 exact ⟨_, c, rfl, hc, hm, fun _ => ⟨b, 0, rfl, hb, fun j x hx => by rw [h.cell, Nat.zero_add]; exact he j x hx⟩⟩
theorem at2 {α : Type} {P : Nat → α → Prop} {a b : α} (h0 : P 0 a) (h1 : P 1 b) : ∀ (j : Nat) (x : α), [a, b][j]? = some x → P j x
 | 0, x, h => by injection h with h; exact h ▸ h0
 | 1, x, h => by injection h with h; exact h ▸ h1
 | j + 2, x, h => by simp at h
theorem at1 {α : Type} {P : Nat → α → Prop} {a : α} (h0 : P 0 a) : ∀ (j : Nat) (x : α), [a][j]? = some x → P j x
 | 0, x, h => by injection h with h; exact h ▸ h0
 | j + 1, x, h => by simp at h
theorem at5 {α : Type} {P : Nat → α → Prop} {a b c d e : α} (h0 : P 0 a) (h1 : P 1 b) (h2 : P 2 c) (h3 : P 3 d) (h4 : P 4 e) : ∀ (j : Nat) (x : α), [a, b, c, d, e][j]? = some x → P j x
 | 0, x, h => by injection h with h; exact h ▸ h0
 | 1, x, h => by injection h with h; exact h ▸ h1
 | 2, x, h => by injection h with h; exact h ▸ h2
 | 3, x, h => by injection h with h; exact h ▸ h3
 | 4, x, h => by injection h with h; exact h ▸ h4
 | j + 5, x, h => by simp at h
theorem sum_graph (we : World) (n : Nat) (t1 t2 t3 t4 t5 t6 t7 t8 t9 : TypeId) (hz : n + 10 ≤ we.heap.size)
  (h1 : Blk we (n + 1) t1 #[.int .i64 0, .int .i64 1]) (h2 : Blk we (n + 1 + 1) t2 #[.int .i64 2])
  (h3 : Blk we (n + 1 + 1 + 1) t3 #[.int .u8 4, .slice none 0 0, .int .i64 1, .int .u8 2, .int .i64 (-1), .int .u8 4, .slice none 0 0, .int .i64 2, .int .u8 2, .int .i64 (-1), .int .u8 15, .slice (some ⟨n + 1, 0, none⟩) 2 2, .int .i64 1, .int .u8 0, .int .i64 0, .int .u8 23, .slice (some ⟨n + 1 + 1, 0, none⟩) 1 1, .int .i64 0, .int .u8 0, .int .i64 1, .int .u8 4, .slice none 0 0, .int .i64 0, .int .u8 0, .int .i64 (-1)])
  (h4 : Blk we (n + 1 + 1 + 1 + 1) t4 #[.int .i64 0, .int .i64 1, .int .i64 2, .int .i64 3, .int .i64 4]) (h5 : Blk we (n + 1 + 1 + 1 + 1 + 1) t5 #[.int .i64 4])
  (h6 : Blk we (n + 1 + 1 + 1 + 1 + 1 + 1) t6 #[.slice (some ⟨n + 1 + 1 + 1 + 1, 0, none⟩) 5 5, .int .u8 4, .slice (some ⟨n + 1 + 1 + 1 + 1 + 1, 0, none⟩) 1 1, .slice none 0 0, .slice none 0 0, .int .i64 (-1)])
  (h7 : Blk we (n + 1 + 1 + 1 + 1 + 1 + 1 + 1) t7 #[.int .i64 0, .int .i64 1]) (h8 : Blk we (n + 1 + 1 + 1 + 1 + 1 + 1 + 1 + 1) t8 #[.int .i64 2])
  (h9 : Blk we (n + 1 + 1 + 1 + 1 + 1 + 1 + 1 + 1 + 1) t9 #[.int .i64 2, .slice (some ⟨n + 1 + 1 + 1 + 1 + 1 + 1 + 1, 0, none⟩) 2 2, .int .i64 3, .slice (some ⟨n + 1 + 1 + 1 + 1 + 1 + 1 + 1 + 1, 0, none⟩) 1 1]) :
  GraphV we we.heap.size ⟨.slice (some ⟨n + 1 + 1 + 1, 0, none⟩) 5 5, .slice (some ⟨n + 1 + 1 + 1 + 1 + 1 + 1, 0, none⟩) 1 1, .slice (some ⟨n + 1 + 1 + 1 + 1 + 1 + 1 + 1 + 1 + 1, 0, none⟩) 2 2⟩ sumG := by
 have i1 : IntsV we we.heap.size (.slice (some ⟨n + 1, 0, none⟩) 2 2) [0, 1] := ints_blk h1 (by omega) rfl (by decide) (by decide) (at2 rfl rfl)
 have i2 : IntsV we we.heap.size (.slice (some ⟨n + 1 + 1, 0, none⟩) 1 1) [2] := ints_blk h2 (by omega) rfl (by decide) (by decide) (at1 rfl)
 have i4 : IntsV we we.heap.size (.slice (some ⟨n + 1 + 1 + 1 + 1, 0, none⟩) 5 5) [0, 1, 2, 3, 4] := ints_blk h4 (by omega) rfl (by decide) (by decide) (at5 rfl rfl rfl rfl rfl)
 have i5 : IntsV we we.heap.size (.slice (some ⟨n + 1 + 1 + 1 + 1 + 1, 0, none⟩) 1 1) [4] := ints_blk h5 (by omega) rfl (by decide) (by decide) (at1 rfl)
 have i7 : IntsV we we.heap.size (.slice (some ⟨n + 1 + 1 + 1 + 1 + 1 + 1 + 1, 0, none⟩) 2 2) [0, 1] := ints_blk h7 (by omega) rfl (by decide) (by decide) (at2 rfl rfl)
 have i8 : IntsV we we.heap.size (.slice (some ⟨n + 1 + 1 + 1 + 1 + 1 + 1 + 1 + 1, 0, none⟩) 1 1) [2] := ints_blk h8 (by omega) rfl (by decide) (by decide) (at1 rfl)
 have i0 := IntsV.nil we we.heap.size
 have c3 := h3.cell; have c6 := h6.cell; have c9 := h9.cell
 refine ⟨⟨_, 5, rfl, by decide, by decide, fun _ => ⟨n + 1 + 1 + 1, 0, rfl, by omega, ?_⟩⟩, ⟨_, 1, rfl, by decide, by decide, fun _ => ⟨n + 1 + 1 + 1 + 1 + 1 + 1, 0, rfl, by omega, ?_⟩⟩, ⟨_, 2, rfl, by decide, by decide, fun _ => ⟨n + 1 + 1 + 1 + 1 + 1 + 1 + 1 + 1 + 1, 0, rfl, by omega, ?_⟩⟩⟩
 ·refine at5 (P := fun j x => NodeAt we we.heap.size (n + 1 + 1 + 1) (0 + j * 5) x) ?_ ?_ ?_ ?_ ?_
  ·exact ⟨c3 0, ⟨_, c3 1, i0⟩, c3 2, c3 3, c3 4⟩
  ·exact ⟨c3 5, ⟨_, c3 6, i0⟩, c3 7, c3 8, c3 9⟩
  ·exact ⟨c3 10, ⟨_, c3 11, i1⟩, c3 12, c3 13, c3 14⟩
  ·exact ⟨c3 15, ⟨_, c3 16, i2⟩, c3 17, c3 18, c3 19⟩
  ·exact ⟨c3 20, ⟨_, c3 21, i0⟩, c3 22, c3 23, c3 24⟩
 ·refine at1 (P := fun j x => BlockAt we we.heap.size (n + 1 + 1 + 1 + 1 + 1 + 1) (0 + j * 6) x) ?_
  exact ⟨⟨_, c6 0, i4⟩, c6 1, ⟨_, c6 2, i5⟩, ⟨_, c6 3, i0⟩, ⟨_, c6 4, i0⟩, c6 5⟩
 ·refine at2 (P := fun j x => StateAt we we.heap.size (n + 1 + 1 + 1 + 1 + 1 + 1 + 1 + 1 + 1) (0 + j * 2) x) ?_ ?_
  ·exact ⟨c9 0, ⟨_, c9 1, i7⟩⟩
  ·exact ⟨c9 2, ⟨_, c9 3, i8⟩⟩
theorem sum_world (w : World) (a0 a1 a2 a3 a4 a5 a6 a7 a8 a9 : Array Value) (t0 t1 t2 t3 t4 t5 t6 t7 t8 t9 : TypeId) : ∃ we, we = (((((((((w.alloc (.cells a0 t0)).alloc (.cells a1 t1)).alloc (.cells a2 t2)).alloc (.cells a3 t3)).alloc (.cells a4 t4)).alloc (.cells a5 t5)).alloc (.cells a6 t6)).alloc (.cells a7 t7)).alloc (.cells a8 t8)).alloc (.cells a9 t9) ∧
  we.heap.size = w.heap.size + 10 ∧ Below w.heap.size w we ∧ Blk we w.heap.size t0 a0 ∧ Blk we (w.heap.size + 1) t1 a1 ∧ Blk we (w.heap.size + 1 + 1) t2 a2 ∧ Blk we (w.heap.size + 1 + 1 + 1) t3 a3 ∧ Blk we (w.heap.size + 1 + 1 + 1 + 1) t4 a4 ∧ Blk we (w.heap.size + 1 + 1 + 1 + 1 + 1) t5 a5 ∧ Blk we (w.heap.size + 1 + 1 + 1 + 1 + 1 + 1) t6 a6 ∧ Blk we (w.heap.size + 1 + 1 + 1 + 1 + 1 + 1 + 1) t7 a7 ∧ Blk we (w.heap.size + 1 + 1 + 1 + 1 + 1 + 1 + 1 + 1) t8 a8 ∧ Blk we (w.heap.size + 1 + 1 + 1 + 1 + 1 + 1 + 1 + 1 + 1) t9 a9 := by
 refine ⟨_, rfl, by simp, ?_, ?_, ?_, ?_, ?_, ?_, ?_, ?_, ?_, ?_, ?_⟩
 ·exact (((((((((((Below.refl w.heap.size w).alloc (by simp) _).alloc (by simp) _).alloc (by simp; try omega) _).alloc (by simp; try omega) _).alloc (by simp; try omega) _).alloc (by simp; try omega) _).alloc (by simp; try omega) _).alloc (by simp; try omega) _).alloc (by simp; try omega) _).alloc (by simp; try omega) _)
 ·exact (((((((((Blk.new w t0 a0).alloc _).alloc _).alloc _).alloc _).alloc _).alloc _).alloc _).alloc _).alloc _
 ·have := ((((((((Blk.new (w.alloc (.cells a0 t0)) t1 a1).alloc (.cells a2 t2)).alloc (.cells a3 t3)).alloc (.cells a4 t4)).alloc (.cells a5 t5)).alloc (.cells a6 t6)).alloc (.cells a7 t7)).alloc (.cells a8 t8)).alloc (.cells a9 t9); simp only [World.size_alloc] at this; exact this
 ·have := (((((((Blk.new ((w.alloc (.cells a0 t0)).alloc (.cells a1 t1)) t2 a2).alloc (.cells a3 t3)).alloc (.cells a4 t4)).alloc (.cells a5 t5)).alloc (.cells a6 t6)).alloc (.cells a7 t7)).alloc (.cells a8 t8)).alloc (.cells a9 t9); simp only [World.size_alloc] at this; exact this
 ·have := ((((((Blk.new (((w.alloc (.cells a0 t0)).alloc (.cells a1 t1)).alloc (.cells a2 t2)) t3 a3).alloc (.cells a4 t4)).alloc (.cells a5 t5)).alloc (.cells a6 t6)).alloc (.cells a7 t7)).alloc (.cells a8 t8)).alloc (.cells a9 t9); simp only [World.size_alloc] at this; exact this
 ·have := (((((Blk.new ((((w.alloc (.cells a0 t0)).alloc (.cells a1 t1)).alloc (.cells a2 t2)).alloc (.cells a3 t3)) t4 a4).alloc (.cells a5 t5)).alloc (.cells a6 t6)).alloc (.cells a7 t7)).alloc (.cells a8 t8)).alloc (.cells a9 t9); simp only [World.size_alloc] at this; exact this
 ·have := ((((Blk.new (((((w.alloc (.cells a0 t0)).alloc (.cells a1 t1)).alloc (.cells a2 t2)).alloc (.cells a3 t3)).alloc (.cells a4 t4)) t5 a5).alloc (.cells a6 t6)).alloc (.cells a7 t7)).alloc (.cells a8 t8)).alloc (.cells a9 t9); simp only [World.size_alloc] at this; exact this
 ·have := (((Blk.new ((((((w.alloc (.cells a0 t0)).alloc (.cells a1 t1)).alloc (.cells a2 t2)).alloc (.cells a3 t3)).alloc (.cells a4 t4)).alloc (.cells a5 t5)) t6 a6).alloc (.cells a7 t7)).alloc (.cells a8 t8)).alloc (.cells a9 t9); simp only [World.size_alloc] at this; exact this
 ·have := ((Blk.new (((((((w.alloc (.cells a0 t0)).alloc (.cells a1 t1)).alloc (.cells a2 t2)).alloc (.cells a3 t3)).alloc (.cells a4 t4)).alloc (.cells a5 t5)).alloc (.cells a6 t6)) t7 a7).alloc (.cells a8 t8)).alloc (.cells a9 t9); simp only [World.size_alloc] at this; exact this
 ·have := (Blk.new ((((((((w.alloc (.cells a0 t0)).alloc (.cells a1 t1)).alloc (.cells a2 t2)).alloc (.cells a3 t3)).alloc (.cells a4 t4)).alloc (.cells a5 t5)).alloc (.cells a6 t6)).alloc (.cells a7 t7)) t8 a8).alloc (.cells a9 t9); simp only [World.size_alloc] at this; exact this
 ·have := Blk.new (((((((((w.alloc (.cells a0 t0)).alloc (.cells a1 t1)).alloc (.cells a2 t2)).alloc (.cells a3 t3)).alloc (.cells a4 t4)).alloc (.cells a5 t5)).alloc (.cells a6 t6)).alloc (.cells a7 t7)).alloc (.cells a8 t8)) t9 a9; simp only [World.size_alloc] at this; exact this
set_option maxRecDepth 100000 in
set_option maxHeartbeats 4000000 in
theorem sum_any (w : World) : Calls Tryz.prog 28 #[] w (SumIs w) := by
 go_enter Tryz.func28, Tryz.ntmps28
 go_wp2_with fail
 obtain ⟨we, e, hz, hb, h0, h1, h2, h3, h4, h5, h6, h7, h8, h9⟩ := sum_world w _ _ _ _ _ _ _ _ _ _ _ _ _ _ _ _ _ _ _ _
 rw [← e]
 have c0 := h0.cell
 have z0 := h0.frozen
 refine bodyPost_ret (v := .agg #[.int .i64 0, .int .i64 0, .int .i64 0, .slice (some ⟨w.heap.size + 1 + 1 + 1, 0, none⟩) 5 5, .slice (some ⟨w.heap.size + 1 + 1 + 1 + 1 + 1 + 1, 0, none⟩) 1 1, .slice (some ⟨w.heap.size + 1 + 1 + 1 + 1 + 1 + 1 + 1 + 1 + 1, 0, none⟩) 2 2]) ?_ rfl ?_
 ·have hfr : (Tryz.f28).results = #[.cell 0 28] := rfl
  simp only [results, hfr]
  go_simp
 ·exact ⟨_, rfl, sum_graph we w.heap.size _ _ _ _ _ _ _ _ _ (by omega) h1 h2 h3 h4 h5 h6 h7 h8 h9, hb⟩
end Go.Proofs.YtkmfdiboekoioaaGreat

/- Plain facts of the chapter's graph: what meets there, its order, its registers. No condition. -/
namespace Go.Proofs.YtkmfdiboekoioaaGreat
open Go.RowKit

def sumB : BlockP := ⟨[0, 1, 2, 3, 4], 4, [4], [], [], -1⟩
theorem sum_small : Small sumG := by unfold Small; decide
theorem sum_sound : soundB sumG = true := by decide
def sumSpot : Spot := [4, 3, 2, 1, 0].foldl (spotStep sumG) ⟨((ISet.empty.add 5 []).add 5 [4]).add 5 [], [], fun _ _ => false⟩
def sumR : Meets := clique sumSpot.meet sumSpot.phis
theorem sum_meets {I O : Sets} (h : LiveIs sumG I O) : meetAll sumG I O = sumR := by
 have hO : O.at_ 0 = ISet.empty := Sets.at_some (h.isO 0 sumB rfl)
 have hI : I.at_ 0 = inF sumG sumB ISet.empty := by rw [← hO]; exact Sets.at_some (h.isI 0 sumB rfl)
 have lO : listOf 5 (O.at_ 0) = [] := by rw [hO]; decide
 have lI : listOf 5 (I.at_ 0) = [] := by rw [hI]; decide
 have e1 : meetAll sumG I O = meetBlock sumG I O 0 sumB (fun _ _ => false) := meetTo_step sumG I O 0 sumB rfl
 have e2 : spotTo sumG I O 0 sumB (fun _ _ => false) [4, 3, 2, 1, 0] = sumSpot := by
  unfold spotTo spotFirst sumSpot
  show List.foldl (spotStep sumG) ⟨((ISet.empty.add 5 (listOf 5 (O.at_ 0))).add 5 [4]).add 5 [], listOf 5 (I.at_ 0), fun _ _ => false⟩ [4, 3, 2, 1, 0] = _
  rw [lO, lI]
 rw [e1]
 unfold meetBlock
 show clique (spotTo sumG I O 0 sumB (fun _ _ => false) [4, 3, 2, 1, 0]).meet (spotTo sumG I O 0 sumB (fun _ _ => false) [4, 3, 2, 1, 0]).phis = sumR
 rw [e2]
 rfl
theorem sum_ab : abOf sumG 0 = [0] := by
 unfold abOf
 show aboveTo sumG 0 (0 + 1) = [0]
 rw [aboveTo_yes (.inr (.inl rfl))]
 simp [aboveTo]
theorem sum_order : orderOf sumG = [0, 1, 2, 3, 4, 0, 1, 2, 3, 4] := by
 have h : ordAll sumG 1 = ⟨fun z => false || z == 0, [0, 1, 2, 3, 4]⟩ := by
  show ordB sumG (abOf sumG) (1 + 1) ⟨ISet.empty, []⟩ 0 = _
  rw [ordB_new rfl]
  unfold ordTo
  rw [sum_ab]
  have : ordStep (abOf sumG) (ordB sumG (abOf sumG) 1) 0 ⟨fun z => ISet.empty z || z == ((0 : Nat) : Int), []⟩ 0 = ⟨fun z => ISet.empty z || z == ((0 : Nat) : Int), []⟩ := by
   unfold ordStep
   rw [if_neg (by simp)]
  simp only [List.length_singleton, List.take_succ_cons, List.take_zero, List.foldl_cons, List.foldl_nil, this]
  rfl
 unfold orderOf
 show (ordAll sumG 1).out ++ natsTo 5 = _
 rw [h]
 rfl
theorem GTo.inv {R : Meets} {N : Nat} {m rs' : List Int} (h : GTo R N m rs') {l : List Int} {n : Nat} (e : m = l ++ [(n : Int)]) : ∃ rs, GTo R N l rs ∧ GStep R rs n rs' := by
 cases h with
 | nil => simp at e
 | snoc l1 n1 rs _ h1 h2 =>
  obtain ⟨e1, e2⟩ := List.append_inj' e rfl
  injection e2 with e2
  have e3 : n1 = n := by omega
  subst e1 e3
  exact ⟨rs, h1, h2⟩
theorem GTo.start {R : Meets} {N : Nat} {rs : List Int} (h : GTo R N [] rs) : rs = List.replicate N (-1) := by
 generalize e : ([] : List Int) = m at h
 cases h with
 | nil => rfl
 | snoc l n rs _ h1 h2 => simp at e
theorem GStep.has {R : Meets} {rs rs' : List Int} {n : Nat} (h : GStep R rs n rs') (h0 : 0 ≤ rs.getD n 0) : rs' = rs := by
 rcases h with ⟨_, h⟩ | ⟨h, _⟩
 ·exact h
 ·omega
theorem GStep.gets {R : Meets} {rs rs' : List Int} {n : Nat} {r : Int} (h : GStep R rs n rs') (h0 : rs.getD n 0 < 0) (hf : FreeIs (takenOf R rs n) r) : rs' = rs.set n r := by
 rcases h with ⟨h, _⟩ | ⟨_, r', h, h2⟩
 ·omega
 ·rw [h2, h.one hf]
theorem free0 {t : ISet} (h : t 0 = false) : FreeIs t 0 := ⟨by omega, h, fun q h1 h2 => by omega⟩
theorem free1 {t : ISet} (h : t 0 = true) (h1 : t 1 = false) : FreeIs t 1 := by
 refine ⟨by omega, h1, fun q h2 h3 => ?_⟩
 have e : q = 0 := by omega
 rw [e]; exact h
theorem sum_regs {rs : List Int} (h : GTo sumR 5 (orderOf sumG) rs) : rs = [0, 1, 0, 0, 0] := by
 rw [sum_order] at h
 obtain ⟨r9, h, s9⟩ := h.inv (l := [0, 1, 2, 3, 4, 0, 1, 2, 3]) (n := 4) rfl
 obtain ⟨r8, h, s8⟩ := h.inv (l := [0, 1, 2, 3, 4, 0, 1, 2]) (n := 3) rfl
 obtain ⟨r7, h, s7⟩ := h.inv (l := [0, 1, 2, 3, 4, 0, 1]) (n := 2) rfl
 obtain ⟨r6, h, s6⟩ := h.inv (l := [0, 1, 2, 3, 4, 0]) (n := 1) rfl
 obtain ⟨r5, h, s5⟩ := h.inv (l := [0, 1, 2, 3, 4]) (n := 0) rfl
 obtain ⟨r4, h, s4⟩ := h.inv (l := [0, 1, 2, 3]) (n := 4) rfl
 obtain ⟨r3, h, s3⟩ := h.inv (l := [0, 1, 2]) (n := 3) rfl
 obtain ⟨r2, h, s2⟩ := h.inv (l := [0, 1]) (n := 2) rfl
 obtain ⟨r1, h, s1⟩ := h.inv (l := [0]) (n := 1) rfl
 obtain ⟨r0, h, s0⟩ := h.inv (l := []) (n := 0) rfl
 have e0 := h.start
 subst e0
 have e1 := s0.gets (by decide) (free0 (by decide)); subst e1
 have e2 := s1.gets (by decide) (free1 (by decide) (by decide)); subst e2
 have e3 := s2.gets (by decide) (free0 (by decide)); subst e3
 have e4 := s3.gets (by decide) (free0 (by decide)); subst e4
 have e5 := s4.gets (by decide) (free0 (by decide)); subst e5
 have e6 := s5.has (by decide); subst e6
 have e7 := s6.has (by decide); subst e7
 have e8 := s7.has (by decide); subst e8
 have e9 := s8.has (by decide); subst e9
 have e10 := s9.has (by decide); subst e10
 decide
/-- The two calls of Check. -/
theorem sum_apart_no : ¬ Apart sumR 5 [0, 0, 0, 0, 0] := fun h => h 0 1 (by omega) (by decide) (by omega) (by decide)
theorem sum_apart_yes {I O : Sets} (hl : LiveIs sumG I O) : Apart (meetAll sumG I O) 5 [0, 1, 0, 1, 0] := by
 intro n z hn hr hz
 have hm := (meetIn_all (g := sumG) (I := I) (O := O) hl.boundI sumG.blocks.length) n z hr
 have hz5 : z < 5 := by have : (sumG.nodes.length : Int) = 5 := rfl; omega
 rw [sum_meets hl] at hr
 have key : ∀ n : Nat, n < 5 → ∀ z : Nat, z < 5 → sumR (n : Int) (z : Int) = true → z ≠ n → ([0, 1, 0, 1, 0] : List Int).getD z 0 ≠ ([0, 1, 0, 1, 0] : List Int).getD n 0 := by decide
 exact key n hn z hz5 hr hz
theorem sum_check_no {w w' : World} {e : Ending} (h : CheckIs sumG [0, 0, 0, 0, 0] w e w') : e = .returned (.bool false) ∧ Below w.heap.size w w' := by
 obtain ⟨b, rfl, hb, h | ⟨_, I, O, hl, h⟩⟩ := h
 ·exact ⟨by rw [h.1], hb⟩
 ·refine ⟨?_, hb⟩
  cases b with
  | false => rfl
  | true =>
   have := h.1 rfl
   rw [sum_meets hl] at this
   exact absurd this sum_apart_no
theorem sum_check_yes {w w' : World} {e : Ending} (h : CheckIs sumG [0, 1, 0, 1, 0] w e w') : e = .returned (.bool true) ∧ Below w.heap.size w w' := by
 obtain ⟨b, rfl, hb, h | ⟨_, I, O, hl, h⟩⟩ := h
 ·exact absurd (show RegsOk sumG.nodes.length [0, 1, 0, 1, 0] by unfold RegsOk; decide) h.2
 ·rw [h.2 (sum_apart_yes hl)]; exact ⟨rfl, hb⟩
def SumDo (w : World) (e : Ending) (w' : World) : Prop := ∃ br : Nat, e = .returned (.tuple #[.slice (some ⟨br, 0, none⟩) 5 5, .int .i64 0]) ∧ Blk w' br 3 #[.int .i64 0, .int .i64 1, .int .i64 0, .int .i64 0, .int .i64 0] ∧ Below w.heap.size w w'
theorem sum_do {w w' : World} {e : Ending} (h : DoIs sumG w e w') : SumDo w e w' := by
 rcases h with ⟨h, _⟩ | ⟨_, br, rs, I, O, he, hl, hg, hb, hlow⟩
 ·rw [sum_sound] at h; cases h
 ·rw [sum_meets hl] at hg
  have := sum_regs hg
  subst this
  exact ⟨br, he, hb, hlow⟩
end Go.Proofs.YtkmfdiboekoioaaGreat

/- gearboxlaw21.lives answers true. No condition. -/
namespace Go.Proofs.YtkmfdiboekoioaaGreat
open Go.RowKit
def LivesIs (w : World) (e : Ending) (w' : World) : Prop := e = .returned (.bool true) ∧ Below w.heap.size w w'
theorem GCtx.first {w : World} {xv : GVals} {g : GraphP} (hg : GraphV w w.heap.size xv g) : GCtx (w.alloc (.cells (gbox g xv) 28)) w.heap.size w.heap.size xv g :=
 ⟨hg.keep (Same.of_below ((Below.refl w.heap.size w).alloc (Nat.le_refl _) _)), by simp, Blk.new w _ _⟩
theorem five {k : Nat} (h : k < 5) : k = 0 ∨ k = 1 ∨ k = 2 ∨ k = 3 ∨ k = 4 := by omega
set_option maxRecDepth 100000 in
set_option maxHeartbeats 8000000 in
theorem lives_any (w : World) : Calls Tryz.prog 8 #[] w (LivesIs w) := by
 go_enter Tryz.func8, Tryz.ntmps8
 go_wp2_with first
  | (go_at_call 28; refine (sum_any _).mono ?_; rintro e w1 ⟨xv, rfl, hg1, hb1⟩; have HG1 := Lib.hid hg1; have HB1 := Lib.hid hb1; clear hb1; obtain ⟨vn, vb, vs⟩ := xv; obtain ⟨⟨An, cn, en, nh⟩, ⟨Ab, cb, eb, bh⟩, ⟨As, cs, es, sh⟩⟩ := hg1; simp only at en eb es; clear nh bh sh; subst en eb es; unfold gval; have HC1 := Lib.hid (GCtx.first HG1.out))
  | (go_at_call 9; refine (do_any _ sumG ⟨.slice An sumG.nodes.length cn, .slice Ab sumG.blocks.length cb, .slice As sumG.states.length cs⟩ sum_small HC1.out.graph).mono ?_; intro e w2 hd; obtain ⟨br, rfl, hk2, hb2⟩ := sum_do hd; have HK2 := Lib.hid hk2; have HB2 := Lib.hid hb2; have HC2 := Lib.hid (HC1.out.below hb2); clear hd hk2 hb2)
  | fail
 go_loopw [4, 5] (fun m i wr => ∃ k : Nat, m = .int .i64 ((min k 2 : Nat) : Int) ∧ i = .int .i64 k ∧ k ≤ 5 ∧ wr = w2) (fun m i _ => 5 - (intOf i).toNat)
 case atStart => exact ⟨0, rfl, rfl, by omega, rfl⟩
 case round =>
  obtain ⟨k, rfl, rfl, hk, rfl⟩ := hrel
  by_cases hlt : k < 5
  ·have h0 := HK2.out.cell
   have d : wr.cell? ⟨br, k, none⟩ = some (.int .i64 (([0, 1, 0, 0, 0] : List Int).getD k 0)) := by
    rcases five hlt with rfl | rfl | rfl | rfl | rfl
    ·exact h0 0
    ·exact h0 1
    ·exact h0 2
    ·exact h0 3
    ·exact h0 4
   clear h0
   go_wp2_with fail
   case roundEnd =>
    go_roundw
    case rel =>
     refine ⟨k + 1, congrArg (Value.int .i64) ?_, by go_num, by omega, trivial⟩
     rcases five hlt with rfl | rfl | rfl | rfl | rfl
     ·simp only [List.getElem_cons_zero, List.getElem_cons_succ]
      have e : ∀ z : Int, z = 1 ∨ z = 2 → wrap64 z = z := fun z h => by unfold wrap64; omega
      rw [e _ (by omega)]
      decide
     ·simp only [List.getElem_cons_zero, List.getElem_cons_succ]
      have e : ∀ z : Int, z = 1 ∨ z = 2 → wrap64 z = z := fun z h => by unfold wrap64; omega
      rw [e _ (by omega)]
      decide
     ·simp only [List.getElem_cons_zero, List.getElem_cons_succ]
      have e : ∀ z : Int, z = 1 ∨ z = 2 → wrap64 z = z := fun z h => by unfold wrap64; omega
      rw [e _ (by omega)]
      decide
     ·simp only [List.getElem_cons_zero, List.getElem_cons_succ]
      have e : ∀ z : Int, z = 1 ∨ z = 2 → wrap64 z = z := fun z h => by unfold wrap64; omega
      rw [e _ (by omega)]
      decide
     ·simp only [List.getElem_cons_zero, List.getElem_cons_succ]
      have e : ∀ z : Int, z = 1 ∨ z = 2 → wrap64 z = z := fun z h => by unfold wrap64; omega
      rw [e _ (by omega)]
      decide
    case measure => simp [intOf]; omega
  ·have e : k = 5 := by omega
   subst e
   obtain ⟨f0, f1, f2, f3, f4, f5⟩ := HC2.out.cells
   simp only at f3 f4 f5
   go_wp2_with first
    | (go_at_call 29; refine (check_any _ ⟨.slice An sumG.nodes.length cn, .slice Ab sumG.blocks.length cb, .slice As sumG.states.length cs⟩ sumG _ [0, 1, 0, 1, 0] ((HC3.out.alloc _).graph) sum_small (ints_blk (Blk.new _ _ _) (by simp) rfl (by decide) (by decide) (at5 rfl rfl rfl rfl rfl))).mono ?_; intro e w4 hd; obtain ⟨rfl, hb4⟩ := sum_check_yes hd; have HB4 := Lib.hid hb4; have HW4 := Lib.hid (Eq.refl w4); clear hd hb4)
    | (go_at_call 29; refine (check_any _ ⟨.slice An sumG.nodes.length cn, .slice Ab sumG.blocks.length cb, .slice As sumG.states.length cs⟩ sumG _ [0, 0, 0, 0, 0] ((HC2.out.alloc _).graph) sum_small (ints_blk (Blk.new _ _ _) (by simp) rfl (by decide) (by decide) (at5 rfl rfl rfl rfl rfl))).mono ?_; intro e w3 hd; obtain ⟨rfl, hb3⟩ := sum_check_no hd; have HB3 := Lib.hid hb3; have HC3 := Lib.hid ((HC2.out.alloc (.cells #[.int .i64 0, .int .i64 0, .int .i64 0, .int .i64 0, .int .i64 0] 3)).below hb3); clear hd hb3; obtain ⟨f0, f1, f2, f3, f4, f5⟩ := HC3.out.cells; simp only at f3 f4 f5)
    | fail
   go_ret
   refine ⟨rfl, ?_⟩
   have b1 := HB1.out.alloc HB1.out.size (.cells (gbox sumG ⟨.slice An sumG.nodes.length cn, .slice Ab sumG.blocks.length cb, .slice As sumG.states.length cs⟩) 28)
   have b2 := b1.trans (HB2.out.mono b1.size)
   have b3 := b2.alloc b2.size (.cells #[.int .i64 0, .int .i64 0, .int .i64 0, .int .i64 0, .int .i64 0] 3)
   have b4 := b3.trans (HB3.out.mono b3.size)
   have b5 := b4.alloc b4.size (.cells #[.int .i64 0, .int .i64 1, .int .i64 0, .int .i64 1, .int .i64 0] 3)
   exact b5.trans (HB4.out.mono b5.size)
end Go.Proofs.YtkmfdiboekoioaaGreat
