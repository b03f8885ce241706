/- The chapter's graph, as gearboxlaw16.Sum makes it. No condition. -/
import Derived.Test.YtkmfdiboekoioaaDo
namespace Go.Proofs.Ytkmfdiboekoioaa
open Go.RowKit
def sumG : GraphP := ⟨0, 0, 0, [⟨4, [], 1, 2, -1⟩, ⟨4, [], 2, 2, -1⟩, ⟨15, [0, 1], 1, 0, 0⟩, ⟨23, [2], 0, 0, 1⟩, ⟨4, [], 0, 0, -1⟩], [⟨[0, 1, 2, 3, 4], 4, [4], [], [], -1⟩], [⟨2, [0, 1]⟩, ⟨3, [2]⟩]⟩
def SumIs (w : World) (e : Ending) (w' : World) : Prop := ∃ xv, e = .returned (gval sumG xv) ∧ GraphV w' w'.heap.size xv sumG ∧ Below w.heap.size w w'
theorem ints_blk {w : World} {b c k B : Nat} {t : TypeId} {cs : Array Value} {l : List Int} (h : Blk w b t cs) (hb : b < B) (hl : l.length = k) (hc : k ≤ c) (hm : k ≤ lim) (he : ∀ (j : Nat) (x : Int), l[j]? = some x → cs[j]? = some (Value.int .i64 x)) : IntsV w B (.slice (some ⟨b, 0, none⟩) k c) l := by
  subst hl
  exact ⟨_, c, rfl, hc, hm, fun _ => ⟨b, 0, rfl, hb, fun j x hx => by rw [h.cell, Nat.zero_add]; exact he j x hx⟩⟩
theorem at2 {α : Type} {P : Nat → α → Prop} {a b : α} (h0 : P 0 a) (h1 : P 1 b) : ∀ (j : Nat) (x : α), [a, b][j]? = some x → P j x
  | 0, x, h => by injection h with h; exact h ▸ h0
  | 1, x, h => by injection h with h; exact h ▸ h1
  | j + 2, x, h => by simp at h
theorem at1 {α : Type} {P : Nat → α → Prop} {a : α} (h0 : P 0 a) : ∀ (j : Nat) (x : α), [a][j]? = some x → P j x
  | 0, x, h => by injection h with h; exact h ▸ h0
  | j + 1, x, h => by simp at h
theorem at5 {α : Type} {P : Nat → α → Prop} {a b c d e : α} (h0 : P 0 a) (h1 : P 1 b) (h2 : P 2 c) (h3 : P 3 d) (h4 : P 4 e) : ∀ (j : Nat) (x : α), [a, b, c, d, e][j]? = some x → P j x
  | 0, x, h => by injection h with h; exact h ▸ h0
  | 1, x, h => by injection h with h; exact h ▸ h1
  | 2, x, h => by injection h with h; exact h ▸ h2
  | 3, x, h => by injection h with h; exact h ▸ h3
  | 4, x, h => by injection h with h; exact h ▸ h4
  | j + 5, x, h => by simp at h
theorem sum_graph (we : World) (n : Nat) (t1 t2 t3 t4 t5 t6 t7 t8 t9 : TypeId) (hz : n + 10 ≤ we.heap.size)
    (h1 : Blk we (n + 1) t1 #[.int .i64 0, .int .i64 1]) (h2 : Blk we (n + 1 + 1) t2 #[.int .i64 2])
    (h3 : Blk we (n + 1 + 1 + 1) t3 #[.int .u8 4, .slice none 0 0, .int .i64 1, .int .u8 2, .int .i64 (-1), .int .u8 4, .slice none 0 0, .int .i64 2, .int .u8 2, .int .i64 (-1), .int .u8 15, .slice (some ⟨n + 1, 0, none⟩) 2 2, .int .i64 1, .int .u8 0, .int .i64 0, .int .u8 23, .slice (some ⟨n + 1 + 1, 0, none⟩) 1 1, .int .i64 0, .int .u8 0, .int .i64 1, .int .u8 4, .slice none 0 0, .int .i64 0, .int .u8 0, .int .i64 (-1)])
    (h4 : Blk we (n + 1 + 1 + 1 + 1) t4 #[.int .i64 0, .int .i64 1, .int .i64 2, .int .i64 3, .int .i64 4]) (h5 : Blk we (n + 1 + 1 + 1 + 1 + 1) t5 #[.int .i64 4])
    (h6 : Blk we (n + 1 + 1 + 1 + 1 + 1 + 1) t6 #[.slice (some ⟨n + 1 + 1 + 1 + 1, 0, none⟩) 5 5, .int .u8 4, .slice (some ⟨n + 1 + 1 + 1 + 1 + 1, 0, none⟩) 1 1, .slice none 0 0, .slice none 0 0, .int .i64 (-1)])
    (h7 : Blk we (n + 1 + 1 + 1 + 1 + 1 + 1 + 1) t7 #[.int .i64 0, .int .i64 1]) (h8 : Blk we (n + 1 + 1 + 1 + 1 + 1 + 1 + 1 + 1) t8 #[.int .i64 2])
    (h9 : Blk we (n + 1 + 1 + 1 + 1 + 1 + 1 + 1 + 1 + 1) t9 #[.int .i64 2, .slice (some ⟨n + 1 + 1 + 1 + 1 + 1 + 1 + 1, 0, none⟩) 2 2, .int .i64 3, .slice (some ⟨n + 1 + 1 + 1 + 1 + 1 + 1 + 1 + 1, 0, none⟩) 1 1]) :
    GraphV we we.heap.size ⟨.slice (some ⟨n + 1 + 1 + 1, 0, none⟩) 5 5, .slice (some ⟨n + 1 + 1 + 1 + 1 + 1 + 1, 0, none⟩) 1 1, .slice (some ⟨n + 1 + 1 + 1 + 1 + 1 + 1 + 1 + 1 + 1, 0, none⟩) 2 2⟩ sumG := by
  have i1 : IntsV we we.heap.size (.slice (some ⟨n + 1, 0, none⟩) 2 2) [0, 1] := ints_blk h1 (by omega) rfl (by decide) (by decide) (at2 rfl rfl)
  have i2 : IntsV we we.heap.size (.slice (some ⟨n + 1 + 1, 0, none⟩) 1 1) [2] := ints_blk h2 (by omega) rfl (by decide) (by decide) (at1 rfl)
  have i4 : IntsV we we.heap.size (.slice (some ⟨n + 1 + 1 + 1 + 1, 0, none⟩) 5 5) [0, 1, 2, 3, 4] := ints_blk h4 (by omega) rfl (by decide) (by decide) (at5 rfl rfl rfl rfl rfl)
  have i5 : IntsV we we.heap.size (.slice (some ⟨n + 1 + 1 + 1 + 1 + 1, 0, none⟩) 1 1) [4] := ints_blk h5 (by omega) rfl (by decide) (by decide) (at1 rfl)
  have i7 : IntsV we we.heap.size (.slice (some ⟨n + 1 + 1 + 1 + 1 + 1 + 1 + 1, 0, none⟩) 2 2) [0, 1] := ints_blk h7 (by omega) rfl (by decide) (by decide) (at2 rfl rfl)
  have i8 : IntsV we we.heap.size (.slice (some ⟨n + 1 + 1 + 1 + 1 + 1 + 1 + 1 + 1, 0, none⟩) 1 1) [2] := ints_blk h8 (by omega) rfl (by decide) (by decide) (at1 rfl)
  have i0 := IntsV.nil we we.heap.size
  have c3 := h3.cell; have c6 := h6.cell; have c9 := h9.cell
  refine ⟨⟨_, 5, rfl, by decide, by decide, fun _ => ⟨n + 1 + 1 + 1, 0, rfl, by omega, ?_⟩⟩, ⟨_, 1, rfl, by decide, by decide, fun _ => ⟨n + 1 + 1 + 1 + 1 + 1 + 1, 0, rfl, by omega, ?_⟩⟩, ⟨_, 2, rfl, by decide, by decide, fun _ => ⟨n + 1 + 1 + 1 + 1 + 1 + 1 + 1 + 1 + 1, 0, rfl, by omega, ?_⟩⟩⟩
  · refine at5 (P := fun j x => NodeAt we we.heap.size (n + 1 + 1 + 1) (0 + j * 5) x) ?_ ?_ ?_ ?_ ?_
    · exact ⟨c3 0, ⟨_, c3 1, i0⟩, c3 2, c3 3, c3 4⟩
    · exact ⟨c3 5, ⟨_, c3 6, i0⟩, c3 7, c3 8, c3 9⟩
    · exact ⟨c3 10, ⟨_, c3 11, i1⟩, c3 12, c3 13, c3 14⟩
    · exact ⟨c3 15, ⟨_, c3 16, i2⟩, c3 17, c3 18, c3 19⟩
    · exact ⟨c3 20, ⟨_, c3 21, i0⟩, c3 22, c3 23, c3 24⟩
  · refine at1 (P := fun j x => BlockAt we we.heap.size (n + 1 + 1 + 1 + 1 + 1 + 1) (0 + j * 6) x) ?_
    exact ⟨⟨_, c6 0, i4⟩, c6 1, ⟨_, c6 2, i5⟩, ⟨_, c6 3, i0⟩, ⟨_, c6 4, i0⟩, c6 5⟩
  · refine at2 (P := fun j x => StateAt we we.heap.size (n + 1 + 1 + 1 + 1 + 1 + 1 + 1 + 1 + 1) (0 + j * 2) x) ?_ ?_
    · exact ⟨c9 0, ⟨_, c9 1, i7⟩⟩
    · exact ⟨c9 2, ⟨_, c9 3, i8⟩⟩
theorem sum_world (w : World) (a0 a1 a2 a3 a4 a5 a6 a7 a8 a9 : Array Value) (t0 t1 t2 t3 t4 t5 t6 t7 t8 t9 : TypeId) : ∃ we, we = (((((((((w.alloc (.cells a0 t0)).alloc (.cells a1 t1)).alloc (.cells a2 t2)).alloc (.cells a3 t3)).alloc (.cells a4 t4)).alloc (.cells a5 t5)).alloc (.cells a6 t6)).alloc (.cells a7 t7)).alloc (.cells a8 t8)).alloc (.cells a9 t9) ∧
    we.heap.size = w.heap.size + 10 ∧ Below w.heap.size w we ∧ Blk we w.heap.size t0 a0 ∧ Blk we (w.heap.size + 1) t1 a1 ∧ Blk we (w.heap.size + 1 + 1) t2 a2 ∧ Blk we (w.heap.size + 1 + 1 + 1) t3 a3 ∧ Blk we (w.heap.size + 1 + 1 + 1 + 1) t4 a4 ∧ Blk we (w.heap.size + 1 + 1 + 1 + 1 + 1) t5 a5 ∧ Blk we (w.heap.size + 1 + 1 + 1 + 1 + 1 + 1) t6 a6 ∧ Blk we (w.heap.size + 1 + 1 + 1 + 1 + 1 + 1 + 1) t7 a7 ∧ Blk we (w.heap.size + 1 + 1 + 1 + 1 + 1 + 1 + 1 + 1) t8 a8 ∧ Blk we (w.heap.size + 1 + 1 + 1 + 1 + 1 + 1 + 1 + 1 + 1) t9 a9 := by
  refine ⟨_, rfl, by simp, ?_, ?_, ?_, ?_, ?_, ?_, ?_, ?_, ?_, ?_, ?_⟩
  · exact (((((((((((Below.refl w.heap.size w).alloc (by simp) _).alloc (by simp) _).alloc (by simp; try omega) _).alloc (by simp; try omega) _).alloc (by simp; try omega) _).alloc (by simp; try omega) _).alloc (by simp; try omega) _).alloc (by simp; try omega) _).alloc (by simp; try omega) _).alloc (by simp; try omega) _)
  · exact (((((((((Blk.new w t0 a0).alloc _).alloc _).alloc _).alloc _).alloc _).alloc _).alloc _).alloc _).alloc _
  · have := ((((((((Blk.new (w.alloc (.cells a0 t0)) t1 a1).alloc (.cells a2 t2)).alloc (.cells a3 t3)).alloc (.cells a4 t4)).alloc (.cells a5 t5)).alloc (.cells a6 t6)).alloc (.cells a7 t7)).alloc (.cells a8 t8)).alloc (.cells a9 t9); simp only [World.size_alloc] at this; exact this
  · have := (((((((Blk.new ((w.alloc (.cells a0 t0)).alloc (.cells a1 t1)) t2 a2).alloc (.cells a3 t3)).alloc (.cells a4 t4)).alloc (.cells a5 t5)).alloc (.cells a6 t6)).alloc (.cells a7 t7)).alloc (.cells a8 t8)).alloc (.cells a9 t9); simp only [World.size_alloc] at this; exact this
  · have := ((((((Blk.new (((w.alloc (.cells a0 t0)).alloc (.cells a1 t1)).alloc (.cells a2 t2)) t3 a3).alloc (.cells a4 t4)).alloc (.cells a5 t5)).alloc (.cells a6 t6)).alloc (.cells a7 t7)).alloc (.cells a8 t8)).alloc (.cells a9 t9); simp only [World.size_alloc] at this; exact this
  · have := (((((Blk.new ((((w.alloc (.cells a0 t0)).alloc (.cells a1 t1)).alloc (.cells a2 t2)).alloc (.cells a3 t3)) t4 a4).alloc (.cells a5 t5)).alloc (.cells a6 t6)).alloc (.cells a7 t7)).alloc (.cells a8 t8)).alloc (.cells a9 t9); simp only [World.size_alloc] at this; exact this
  · have := ((((Blk.new (((((w.alloc (.cells a0 t0)).alloc (.cells a1 t1)).alloc (.cells a2 t2)).alloc (.cells a3 t3)).alloc (.cells a4 t4)) t5 a5).alloc (.cells a6 t6)).alloc (.cells a7 t7)).alloc (.cells a8 t8)).alloc (.cells a9 t9); simp only [World.size_alloc] at this; exact this
  · have := (((Blk.new ((((((w.alloc (.cells a0 t0)).alloc (.cells a1 t1)).alloc (.cells a2 t2)).alloc (.cells a3 t3)).alloc (.cells a4 t4)).alloc (.cells a5 t5)) t6 a6).alloc (.cells a7 t7)).alloc (.cells a8 t8)).alloc (.cells a9 t9); simp only [World.size_alloc] at this; exact this
  · have := ((Blk.new (((((((w.alloc (.cells a0 t0)).alloc (.cells a1 t1)).alloc (.cells a2 t2)).alloc (.cells a3 t3)).alloc (.cells a4 t4)).alloc (.cells a5 t5)).alloc (.cells a6 t6)) t7 a7).alloc (.cells a8 t8)).alloc (.cells a9 t9); simp only [World.size_alloc] at this; exact this
  · have := (Blk.new ((((((((w.alloc (.cells a0 t0)).alloc (.cells a1 t1)).alloc (.cells a2 t2)).alloc (.cells a3 t3)).alloc (.cells a4 t4)).alloc (.cells a5 t5)).alloc (.cells a6 t6)).alloc (.cells a7 t7)) t8 a8).alloc (.cells a9 t9); simp only [World.size_alloc] at this; exact this
  · have := Blk.new (((((((((w.alloc (.cells a0 t0)).alloc (.cells a1 t1)).alloc (.cells a2 t2)).alloc (.cells a3 t3)).alloc (.cells a4 t4)).alloc (.cells a5 t5)).alloc (.cells a6 t6)).alloc (.cells a7 t7)).alloc (.cells a8 t8)) t9 a9; simp only [World.size_alloc] at this; exact this
set_option maxRecDepth 100000 in
set_option maxHeartbeats 4000000 in
theorem sum_any (w : World) : Calls Try.prog 8 #[] w (SumIs w) := by
  go_enter Try.func8, Try.ntmps8
  go_wp2_with fail
  obtain ⟨we, e, hz, hb, h0, h1, h2, h3, h4, h5, h6, h7, h8, h9⟩ := sum_world w _ _ _ _ _ _ _ _ _ _ _ _ _ _ _ _ _ _ _ _
  rw [← e]
  have c0 := h0.cell
  have z0 := h0.frozen
  refine bodyPost_ret (v := .agg #[.int .i64 0, .int .i64 0, .int .i64 0, .slice (some ⟨w.heap.size + 1 + 1 + 1, 0, none⟩) 5 5, .slice (some ⟨w.heap.size + 1 + 1 + 1 + 1 + 1 + 1, 0, none⟩) 1 1, .slice (some ⟨w.heap.size + 1 + 1 + 1 + 1 + 1 + 1 + 1 + 1 + 1, 0, none⟩) 2 2]) ?_ rfl ?_
  · have hfr : (Try.f8).results = #[.cell 0 26] := rfl
    simp only [results, hfr]
    go_simp
  · exact ⟨_, rfl, sum_graph we w.heap.size _ _ _ _ _ _ _ _ _ (by omega) h1 h2 h3 h4 h5 h6 h7 h8 h9, hb⟩
end Go.Proofs.Ytkmfdiboekoioaa
