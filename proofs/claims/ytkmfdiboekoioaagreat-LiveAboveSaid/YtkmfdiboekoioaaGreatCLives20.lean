/- gearboxlaw20.lives answers true: the chapter's two blocks. No condition. -/
import Derived.Test.YtkmfdiboekoioaaGreatCAbove
import Derived.BigQuiet
set_option linter.unusedSimpArgs false
set_option linter.unusedVariables false
namespace Go.Proofs.YtkmfdiboekoioaaGreat
open Go.RowKit
def twoG : GraphP := ⟨0, 0, 0, [⟨4, [], 0, 0, -1⟩], [⟨[0], 1, [], [1], [], -1⟩, ⟨[], 4, [0], [], [0], -1⟩], []⟩
theorem two_small : Small twoG := by unfold Small; decide
theorem two_live {I O : Sets} (h : LiveIs twoG I O) : listsTo 1 I 2 = [[], [0]] ∧ listsTo 1 O 2 = [[0], []] := by
  have hO1 : O.at_ 1 = outF twoG I (1 : Nat) ⟨[], 4, [0], [], [0], -1⟩ := Sets.at_some (h.isO 1 _ rfl)
  have hI1 : I.at_ 1 = inF twoG ⟨[], 4, [0], [], [0], -1⟩ ISet.empty := by
    have e : O.at_ 1 = ISet.empty := by rw [hO1]; rfl
    rw [← e]; exact Sets.at_some (h.isI 1 _ rfl)
  have lI1 : listOf 1 (I.at_ 1) = [0] := by rw [hI1]; decide
  have hO0 : O.at_ 0 = (ISet.empty.add 1 [0]).add 1 [] := by
    have e : O.at_ 0 = outF twoG I (0 : Nat) ⟨[0], 1, [], [1], [], -1⟩ := Sets.at_some (h.isO 0 _ rfl)
    rw [e]
    show outStep twoG I ((0 : Nat) : Int) ISet.empty 1 = _
    rw [outStep_some (y := ⟨[], 4, [0], [], [0], -1⟩) rfl]
    show (ISet.empty.add 1 (listOf 1 (I.at_ 1))).add 1 [] = _
    rw [lI1]
  have lO0 : listOf 1 (O.at_ 0) = [0] := by rw [hO0]; decide
  have hI0 : I.at_ 0 = inF twoG ⟨[0], 1, [], [1], [], -1⟩ (O.at_ 0) := Sets.at_some (h.isI 0 _ rfl)
  have lI0 : listOf 1 (I.at_ 0) = [] := by rw [hI0, hO0]; decide
  have lO1 : listOf 1 (O.at_ 1) = [] := by
    have e : O.at_ 1 = ISet.empty := by rw [hO1]; rfl
    rw [e]; decide
  constructor
  · show [listOf 1 (I.at_ 0), listOf 1 (I.at_ 1)] = _
    rw [lI0, lI1]
  · show [listOf 1 (O.at_ 0), listOf 1 (O.at_ 1)] = _
    rw [lO0, lO1]
theorem ints_blk2 {w : World} {b c k B : Nat} {t : TypeId} {cs : Array Value} {l : List Int} (h : Blk w b t cs) (hb : b < B) (hl : l.length = k) (hc : k ≤ c) (hm : k ≤ lim) (he : ∀ (j : Nat) (x : Int), l[j]? = some x → cs[j]? = some (Value.int .i64 x)) : IntsV w B (.slice (some ⟨b, 0, none⟩) k c) l := by
  subst hl
  exact ⟨_, c, rfl, hc, hm, fun _ => ⟨b, 0, rfl, hb, fun j x hx => by rw [h.cell, Nat.zero_add]; exact he j x hx⟩⟩
def Lives20Is (w : World) (e : Ending) (w' : World) : Prop := e = .returned (.bool true) ∧ Below w.heap.size w w'
theorem two_mem (w : World) : ∃ we, we = (((((((w.alloc (.cells #[.int .u8 4, .slice none 0 0, .int .i64 0, .int .u8 0, .int .i64 (-1)] 68)).alloc (.cells #[.int .i64 0] 3)).alloc (.cells #[.int .i64 1] 3)).alloc (.cells #[.int .i64 0] 3)).alloc (.cells #[.int .i64 0] 3)).alloc (.cells #[.slice (some ⟨w.heap.size + 1, 0, none⟩) 1 1, .int .u8 1, .slice none 0 0, .slice (some ⟨w.heap.size + 1 + 1, 0, none⟩) 1 1, .slice none 0 0, .int .i64 (-1), .slice none 0 0, .int .u8 4, .slice (some ⟨w.heap.size + 1 + 1 + 1, 0, none⟩) 1 1, .slice none 0 0, .slice (some ⟨w.heap.size + 1 + 1 + 1 + 1, 0, none⟩) 1 1, .int .i64 (-1)] 41)).alloc (.cells #[.int .i64 0, .int .i64 0, .int .i64 0, .slice (some ⟨w.heap.size, 0, none⟩) 1 1, .slice (some ⟨w.heap.size + 1 + 1 + 1 + 1 + 1, 0, none⟩) 2 2, .slice none 0 0] 28)) ∧ GraphV we we.heap.size ⟨.slice (some ⟨w.heap.size, 0, none⟩) 1 1, .slice (some ⟨w.heap.size + 1 + 1 + 1 + 1 + 1, 0, none⟩) 2 2, .slice none 0 0⟩ twoG ∧ Blk we (w.heap.size + 1 + 1 + 1 + 1 + 1 + 1) 28 #[.int .i64 0, .int .i64 0, .int .i64 0, .slice (some ⟨w.heap.size, 0, none⟩) 1 1, .slice (some ⟨w.heap.size + 1 + 1 + 1 + 1 + 1, 0, none⟩) 2 2, .slice none 0 0] ∧ Below w.heap.size w we := by
  refine ⟨_, rfl, ?_, ?_, ?_⟩
  rotate_left
  · have := (Blk.new ((((((w.alloc (.cells #[.int .u8 4, .slice none 0 0, .int .i64 0, .int .u8 0, .int .i64 (-1)] 68)).alloc (.cells #[.int .i64 0] 3)).alloc (.cells #[.int .i64 1] 3)).alloc (.cells #[.int .i64 0] 3)).alloc (.cells #[.int .i64 0] 3)).alloc (.cells #[.slice (some ⟨w.heap.size + 1, 0, none⟩) 1 1, .int .u8 1, .slice none 0 0, .slice (some ⟨w.heap.size + 1 + 1, 0, none⟩) 1 1, .slice none 0 0, .int .i64 (-1), .slice none 0 0, .int .u8 4, .slice (some ⟨w.heap.size + 1 + 1 + 1, 0, none⟩) 1 1, .slice none 0 0, .slice (some ⟨w.heap.size + 1 + 1 + 1 + 1, 0, none⟩) 1 1, .int .i64 (-1)] 41)) 28 #[.int .i64 0, .int .i64 0, .int .i64 0, .slice (some ⟨w.heap.size, 0, none⟩) 1 1, .slice (some ⟨w.heap.size + 1 + 1 + 1 + 1 + 1, 0, none⟩) 2 2, .slice none 0 0])
    simp only [World.size_alloc] at this
    exact this
  · exact ((((((((Below.refl w.heap.size w).alloc (by simp; try omega) _).alloc (by simp; try omega) _).alloc (by simp; try omega) _).alloc (by simp; try omega) _).alloc (by simp; try omega) _).alloc (by simp; try omega) _).alloc (by simp; try omega) _)
  have hz : (((((((w.alloc (.cells #[.int .u8 4, .slice none 0 0, .int .i64 0, .int .u8 0, .int .i64 (-1)] 68)).alloc (.cells #[.int .i64 0] 3)).alloc (.cells #[.int .i64 1] 3)).alloc (.cells #[.int .i64 0] 3)).alloc (.cells #[.int .i64 0] 3)).alloc (.cells #[.slice (some ⟨w.heap.size + 1, 0, none⟩) 1 1, .int .u8 1, .slice none 0 0, .slice (some ⟨w.heap.size + 1 + 1, 0, none⟩) 1 1, .slice none 0 0, .int .i64 (-1), .slice none 0 0, .int .u8 4, .slice (some ⟨w.heap.size + 1 + 1 + 1, 0, none⟩) 1 1, .slice none 0 0, .slice (some ⟨w.heap.size + 1 + 1 + 1 + 1, 0, none⟩) 1 1, .int .i64 (-1)] 41)).alloc (.cells #[.int .i64 0, .int .i64 0, .int .i64 0, .slice (some ⟨w.heap.size, 0, none⟩) 1 1, .slice (some ⟨w.heap.size + 1 + 1 + 1 + 1 + 1, 0, none⟩) 2 2, .slice none 0 0] 28)).heap.size = w.heap.size + 7 := by simp
  have h0 := (((((((Blk.new w 68 #[.int .u8 4, .slice none 0 0, .int .i64 0, .int .u8 0, .int .i64 (-1)]).alloc (.cells #[.int .i64 0] 3)).alloc (.cells #[.int .i64 1] 3)).alloc (.cells #[.int .i64 0] 3)).alloc (.cells #[.int .i64 0] 3)).alloc (.cells #[.slice (some ⟨w.heap.size + 1, 0, none⟩) 1 1, .int .u8 1, .slice none 0 0, .slice (some ⟨w.heap.size + 1 + 1, 0, none⟩) 1 1, .slice none 0 0, .int .i64 (-1), .slice none 0 0, .int .u8 4, .slice (some ⟨w.heap.size + 1 + 1 + 1, 0, none⟩) 1 1, .slice none 0 0, .slice (some ⟨w.heap.size + 1 + 1 + 1 + 1, 0, none⟩) 1 1, .int .i64 (-1)] 41)).alloc (.cells #[.int .i64 0, .int .i64 0, .int .i64 0, .slice (some ⟨w.heap.size, 0, none⟩) 1 1, .slice (some ⟨w.heap.size + 1 + 1 + 1 + 1 + 1, 0, none⟩) 2 2, .slice none 0 0] 28))
  try simp only [World.size_alloc] at h0
  have h1 := ((((((Blk.new (w.alloc (.cells #[.int .u8 4, .slice none 0 0, .int .i64 0, .int .u8 0, .int .i64 (-1)] 68)) 3 #[.int .i64 0]).alloc (.cells #[.int .i64 1] 3)).alloc (.cells #[.int .i64 0] 3)).alloc (.cells #[.int .i64 0] 3)).alloc (.cells #[.slice (some ⟨w.heap.size + 1, 0, none⟩) 1 1, .int .u8 1, .slice none 0 0, .slice (some ⟨w.heap.size + 1 + 1, 0, none⟩) 1 1, .slice none 0 0, .int .i64 (-1), .slice none 0 0, .int .u8 4, .slice (some ⟨w.heap.size + 1 + 1 + 1, 0, none⟩) 1 1, .slice none 0 0, .slice (some ⟨w.heap.size + 1 + 1 + 1 + 1, 0, none⟩) 1 1, .int .i64 (-1)] 41)).alloc (.cells #[.int .i64 0, .int .i64 0, .int .i64 0, .slice (some ⟨w.heap.size, 0, none⟩) 1 1, .slice (some ⟨w.heap.size + 1 + 1 + 1 + 1 + 1, 0, none⟩) 2 2, .slice none 0 0] 28))
  try simp only [World.size_alloc] at h1
  have h2 := (((((Blk.new ((w.alloc (.cells #[.int .u8 4, .slice none 0 0, .int .i64 0, .int .u8 0, .int .i64 (-1)] 68)).alloc (.cells #[.int .i64 0] 3)) 3 #[.int .i64 1]).alloc (.cells #[.int .i64 0] 3)).alloc (.cells #[.int .i64 0] 3)).alloc (.cells #[.slice (some ⟨w.heap.size + 1, 0, none⟩) 1 1, .int .u8 1, .slice none 0 0, .slice (some ⟨w.heap.size + 1 + 1, 0, none⟩) 1 1, .slice none 0 0, .int .i64 (-1), .slice none 0 0, .int .u8 4, .slice (some ⟨w.heap.size + 1 + 1 + 1, 0, none⟩) 1 1, .slice none 0 0, .slice (some ⟨w.heap.size + 1 + 1 + 1 + 1, 0, none⟩) 1 1, .int .i64 (-1)] 41)).alloc (.cells #[.int .i64 0, .int .i64 0, .int .i64 0, .slice (some ⟨w.heap.size, 0, none⟩) 1 1, .slice (some ⟨w.heap.size + 1 + 1 + 1 + 1 + 1, 0, none⟩) 2 2, .slice none 0 0] 28))
  try simp only [World.size_alloc] at h2
  have h3 := ((((Blk.new (((w.alloc (.cells #[.int .u8 4, .slice none 0 0, .int .i64 0, .int .u8 0, .int .i64 (-1)] 68)).alloc (.cells #[.int .i64 0] 3)).alloc (.cells #[.int .i64 1] 3)) 3 #[.int .i64 0]).alloc (.cells #[.int .i64 0] 3)).alloc (.cells #[.slice (some ⟨w.heap.size + 1, 0, none⟩) 1 1, .int .u8 1, .slice none 0 0, .slice (some ⟨w.heap.size + 1 + 1, 0, none⟩) 1 1, .slice none 0 0, .int .i64 (-1), .slice none 0 0, .int .u8 4, .slice (some ⟨w.heap.size + 1 + 1 + 1, 0, none⟩) 1 1, .slice none 0 0, .slice (some ⟨w.heap.size + 1 + 1 + 1 + 1, 0, none⟩) 1 1, .int .i64 (-1)] 41)).alloc (.cells #[.int .i64 0, .int .i64 0, .int .i64 0, .slice (some ⟨w.heap.size, 0, none⟩) 1 1, .slice (some ⟨w.heap.size + 1 + 1 + 1 + 1 + 1, 0, none⟩) 2 2, .slice none 0 0] 28))
  try simp only [World.size_alloc] at h3
  have h4 := (((Blk.new ((((w.alloc (.cells #[.int .u8 4, .slice none 0 0, .int .i64 0, .int .u8 0, .int .i64 (-1)] 68)).alloc (.cells #[.int .i64 0] 3)).alloc (.cells #[.int .i64 1] 3)).alloc (.cells #[.int .i64 0] 3)) 3 #[.int .i64 0]).alloc (.cells #[.slice (some ⟨w.heap.size + 1, 0, none⟩) 1 1, .int .u8 1, .slice none 0 0, .slice (some ⟨w.heap.size + 1 + 1, 0, none⟩) 1 1, .slice none 0 0, .int .i64 (-1), .slice none 0 0, .int .u8 4, .slice (some ⟨w.heap.size + 1 + 1 + 1, 0, none⟩) 1 1, .slice none 0 0, .slice (some ⟨w.heap.size + 1 + 1 + 1 + 1, 0, none⟩) 1 1, .int .i64 (-1)] 41)).alloc (.cells #[.int .i64 0, .int .i64 0, .int .i64 0, .slice (some ⟨w.heap.size, 0, none⟩) 1 1, .slice (some ⟨w.heap.size + 1 + 1 + 1 + 1 + 1, 0, none⟩) 2 2, .slice none 0 0] 28))
  try simp only [World.size_alloc] at h4
  have h5 := ((Blk.new (((((w.alloc (.cells #[.int .u8 4, .slice none 0 0, .int .i64 0, .int .u8 0, .int .i64 (-1)] 68)).alloc (.cells #[.int .i64 0] 3)).alloc (.cells #[.int .i64 1] 3)).alloc (.cells #[.int .i64 0] 3)).alloc (.cells #[.int .i64 0] 3)) 41 #[.slice (some ⟨w.heap.size + 1, 0, none⟩) 1 1, .int .u8 1, .slice none 0 0, .slice (some ⟨w.heap.size + 1 + 1, 0, none⟩) 1 1, .slice none 0 0, .int .i64 (-1), .slice none 0 0, .int .u8 4, .slice (some ⟨w.heap.size + 1 + 1 + 1, 0, none⟩) 1 1, .slice none 0 0, .slice (some ⟨w.heap.size + 1 + 1 + 1 + 1, 0, none⟩) 1 1, .int .i64 (-1)]).alloc (.cells #[.int .i64 0, .int .i64 0, .int .i64 0, .slice (some ⟨w.heap.size, 0, none⟩) 1 1, .slice (some ⟨w.heap.size + 1 + 1 + 1 + 1 + 1, 0, none⟩) 2 2, .slice none 0 0] 28))
  try simp only [World.size_alloc] at h5
  generalize (((((((w.alloc (.cells #[.int .u8 4, .slice none 0 0, .int .i64 0, .int .u8 0, .int .i64 (-1)] 68)).alloc (.cells #[.int .i64 0] 3)).alloc (.cells #[.int .i64 1] 3)).alloc (.cells #[.int .i64 0] 3)).alloc (.cells #[.int .i64 0] 3)).alloc (.cells #[.slice (some ⟨w.heap.size + 1, 0, none⟩) 1 1, .int .u8 1, .slice none 0 0, .slice (some ⟨w.heap.size + 1 + 1, 0, none⟩) 1 1, .slice none 0 0, .int .i64 (-1), .slice none 0 0, .int .u8 4, .slice (some ⟨w.heap.size + 1 + 1 + 1, 0, none⟩) 1 1, .slice none 0 0, .slice (some ⟨w.heap.size + 1 + 1 + 1 + 1, 0, none⟩) 1 1, .int .i64 (-1)] 41)).alloc (.cells #[.int .i64 0, .int .i64 0, .int .i64 0, .slice (some ⟨w.heap.size, 0, none⟩) 1 1, .slice (some ⟨w.heap.size + 1 + 1 + 1 + 1 + 1, 0, none⟩) 2 2, .slice none 0 0] 28)) = we at *
  have i1 : IntsV we we.heap.size (.slice (some ⟨w.heap.size + 1, 0, none⟩) 1 1) [0] := ints_blk2 h1 (by omega) rfl (by decide) (by decide) (fun j x h => by cases j with | zero => (injection h with h; subst h; rfl) | succ j => simp at h)
  have i2 : IntsV we we.heap.size (.slice (some ⟨w.heap.size + 1 + 1, 0, none⟩) 1 1) [1] := ints_blk2 h2 (by omega) rfl (by decide) (by decide) (fun j x h => by cases j with | zero => (injection h with h; subst h; rfl) | succ j => simp at h)
  have i3 : IntsV we we.heap.size (.slice (some ⟨w.heap.size + 1 + 1 + 1, 0, none⟩) 1 1) [0] := ints_blk2 h3 (by omega) rfl (by decide) (by decide) (fun j x h => by cases j with | zero => (injection h with h; subst h; rfl) | succ j => simp at h)
  have i4 : IntsV we we.heap.size (.slice (some ⟨w.heap.size + 1 + 1 + 1 + 1, 0, none⟩) 1 1) [0] := ints_blk2 h4 (by omega) rfl (by decide) (by decide) (fun j x h => by cases j with | zero => (injection h with h; subst h; rfl) | succ j => simp at h)
  have i0 := IntsV.nil we we.heap.size
  have c0 := h0.cell; have c5 := h5.cell
  refine ⟨⟨_, 1, rfl, by decide, by decide, fun _ => ⟨w.heap.size, 0, rfl, by omega, fun j x h => ?_⟩⟩, ⟨_, 2, rfl, by decide, by decide, fun _ => ⟨w.heap.size + 1 + 1 + 1 + 1 + 1, 0, rfl, by omega, fun j x h => ?_⟩⟩, ⟨none, 0, rfl, by decide, by decide, fun h => by simp [twoG] at h⟩⟩
  · cases j with
    | zero => injection h with h; subst h; exact ⟨c0 0, ⟨_, c0 1, i0⟩, c0 2, c0 3, c0 4⟩
    | succ j => simp [twoG] at h
  · cases j with
    | zero => injection h with h; subst h; exact ⟨⟨_, c5 0, i1⟩, c5 1, ⟨_, c5 2, i0⟩, ⟨_, c5 3, i2⟩, ⟨_, c5 4, i0⟩, c5 5⟩
    | succ j => cases j with
      | zero => injection h with h; subst h; exact ⟨⟨_, c5 6, i0⟩, c5 7, ⟨_, c5 8, i3⟩, ⟨_, c5 9, i0⟩, ⟨_, c5 10, i4⟩, c5 11⟩
      | succ j => simp [twoG] at h
set_option maxRecDepth 100000 in
set_option maxHeartbeats 4000000 in
theorem lives20_any (w : World) : Calls Tryz.prog 13 #[] w (Lives20Is w) := by
  obtain ⟨we, hwe, hg, hb6, hlow⟩ := two_mem w
  have HG := Lib.hid hg; have HB := Lib.hid hlow
  have g0 : we.cell? ⟨w.heap.size + 1 + 1 + 1 + 1 + 1 + 1, 0, none⟩ = some (.int .i64 0) := hb6.cell 0
  have g1 : we.cell? ⟨w.heap.size + 1 + 1 + 1 + 1 + 1 + 1, 1, none⟩ = some (.int .i64 0) := hb6.cell 1
  have g2 : we.cell? ⟨w.heap.size + 1 + 1 + 1 + 1 + 1 + 1, 2, none⟩ = some (.int .i64 0) := hb6.cell 2
  have g3 : we.cell? ⟨w.heap.size + 1 + 1 + 1 + 1 + 1 + 1, 3, none⟩ = some (.slice (some ⟨w.heap.size, 0, none⟩) 1 1) := hb6.cell 3
  have g4 : we.cell? ⟨w.heap.size + 1 + 1 + 1 + 1 + 1 + 1, 4, none⟩ = some (.slice (some ⟨w.heap.size + 1 + 1 + 1 + 1 + 1, 0, none⟩) 2 2) := hb6.cell 4
  have g5 : we.cell? ⟨w.heap.size + 1 + 1 + 1 + 1 + 1 + 1, 5, none⟩ = some (.slice none 0 0) := hb6.cell 5
  have gl := hb6.lt
  clear hg hlow hb6
  go_enter Tryz.func13, Tryz.ntmps13
  go_upto_region 2 with fail
  rw [← hwe]
  clear hwe
  go_upto_region 3 with (go_at_call 15; refine (live_any we ⟨.slice (some ⟨w.heap.size, 0, none⟩) 1 1, .slice (some ⟨w.heap.size + 1 + 1 + 1 + 1 + 1, 0, none⟩) 2 2, .slice none 0 0⟩ twoG HG.out two_small).mono ?_; rintro e w2 ⟨I, O, vI, vO, rfl, hL, hrI, hrO, hb2⟩; obtain ⟨eI, eO⟩ := two_live hL; have HrI : Hid (RowsV w2 w2.heap.size vI [[], [0]]) := Lib.hid (eI ▸ hrI); have HrO : Hid (RowsV w2 w2.heap.size vO [[0], []]) := Lib.hid (eO ▸ hrO); have HB2 := Lib.hid hb2; clear hL hrI hrO hb2 eI eO; obtain ⟨AI, cI, rfl, _, _, hI⟩ := HrI.out; obtain ⟨AO, cO, rfl, _, _, hO⟩ := HrO.out; have HI := Lib.hid hI; have HO := Lib.hid hO; clear hI hO)
  obtain ⟨bI, oI, rfl, hbI, hI⟩ := HI.out (by decide)
  obtain ⟨bO, oO, rfl, hbO, hO⟩ := HO.out (by decide)
  obtain ⟨u0, p0, i0⟩ := hI 0 [] rfl
  obtain ⟨u1, p1, i1⟩ := hI 1 [0] rfl
  obtain ⟨u2, p2, i2⟩ := hO 0 [0] rfl
  obtain ⟨u3, p3, i3⟩ := hO 1 [] rfl
  obtain ⟨A0, c0, rfl, _⟩ := i0
  obtain ⟨A1, c1, rfl, _, _, j1⟩ := i1
  obtain ⟨A2, c2, rfl, _⟩ := i2
  obtain ⟨A3, c3, rfl, _⟩ := i3
  obtain ⟨b1, o1, rfl, hb1, j1⟩ := j1 (by decide)
  have q1 := j1 0 0 rfl
  simp only [List.length_nil, List.length_cons, Nat.zero_add, Nat.add_zero] at p0 p1 p2 p3 q1
  obtain ⟨w3, hw3⟩ : ∃ w3, w3 = w2.alloc (.cells #[.slice (some ⟨bI, oI, none⟩) 2 cI, .slice (some ⟨bO, oO, none⟩) 2 cO] 45) := ⟨_, rfl⟩
  have hb3 : Below w2.heap.size w2 w3 := by rw [hw3]; exact (Below.refl _ _).alloc (Nat.le_refl _) _
  have hX : Blk w3 w2.heap.size 45 #[.slice (some ⟨bI, oI, none⟩) 2 cI, .slice (some ⟨bO, oO, none⟩) 2 cO] := by rw [hw3]; exact Blk.new _ _ _
  have x0 : w3.cell? ⟨w2.heap.size, 0, none⟩ = some (.slice (some ⟨bI, oI, none⟩) 2 cI) := hX.cell 0
  have x1 : w3.cell? ⟨w2.heap.size, 1, none⟩ = some (.slice (some ⟨bO, oO, none⟩) 2 cO) := hX.cell 1
  have P0 := (hb3.cell (p := ⟨bI, oI, none⟩) hbI).trans p0
  have P1 := (hb3.cell (p := ⟨bI, oI + 1, none⟩) hbI).trans p1
  have P2 := (hb3.cell (p := ⟨bO, oO, none⟩) hbO).trans p2
  have P3 := (hb3.cell (p := ⟨bO, oO + 1, none⟩) hbO).trans p3
  have Q1 := (hb3.cell (p := ⟨b1, o1, none⟩) hb1).trans q1
  have xl := hX.lt
  have HB3 := Lib.hid hb3
  rw [← hw3]
  clear hw3 p0 p1 p2 p3 q1 hI hO j1 hX hb3 g0 g1 g2 g3 g4 g5
  go_wp2_with fail
  go_ret
  exact ⟨rfl, HB.out.trans ((HB2.out.trans (HB3.out.mono HB2.out.size)).mono HB.out.size)⟩
end Go.Proofs.YtkmfdiboekoioaaGreat
