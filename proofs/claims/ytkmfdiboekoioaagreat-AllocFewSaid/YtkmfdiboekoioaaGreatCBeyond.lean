/- The walk of the function that says whether a graph is more than is gone through. Conditions: each slice within the reach of the model. -/
import Derived.Test.YtkmfdiboekoioaaGreatCBase
import Derived.BigQuiet
set_option linter.unusedSimpArgs false
set_option linter.unusedVariables false
namespace Go.Proofs.YtkmfdiboekoioaaGreat
open Go.RowKit

theorem nodesSz_ge (l : List NodeP) : l.length ≤ nodesSz l := by unfold nodesSz; omega
theorem blocksSz_ge (l : List BlockP) : l.length ≤ blocksSz l := by unfold blocksSz; omega
theorem graphSz_ge (g : GraphP) : g.nodes.length + g.blocks.length ≤ graphSz g := by
 have := nodesSz_ge g.nodes; have := blocksSz_ge g.blocks; unfold graphSz; omega

def NotBeyond (g : GraphP) : Prop := graphSz g ≤ 3000 ∧ g.blocks.length * g.nodes.length ≤ 20000 ∧ g.nodes.length ≤ 600
def BeyondIs (g : GraphP) (w : World) (e : Ending) (w' : World) : Prop := ∃ b : Bool, e = .returned (.bool b) ∧ (b = false → NotBeyond g) ∧ Below w.heap.size w w'

set_option maxHeartbeats 1000000 in
theorem beyond_any (x : GVals) (g : GraphP) (w : World) (hg : GraphV w w.heap.size x g) : Calls Tryz.prog 5 #[gval g x] w (BeyondIs g w) := by
 have HG := Lib.hid hg
 obtain ⟨vn, vb, vs⟩ := x
 obtain ⟨⟨An, cn, en, hcn, hln, _⟩, ⟨Ab, cb, eb, hcb, hlb, _⟩, _⟩ := hg
 simp only at en eb
 subst en eb
 have hge := graphSz_ge g
 have e0 : gval g ⟨.slice An g.nodes.length cn, .slice Ab g.blocks.length cb, vs⟩ = .agg #[.int .i64 g.fn, .int .i64 g.pc, .int .i64 g.slots, .slice An g.nodes.length cn, .slice Ab g.blocks.length cb, vs] := rfl
 have E0 := Lib.hid e0; clear e0
 rw [E0.out]
 go_enter Tryz.func5, Tryz.ntmps5
 go_wp2_with fail
 have b0 : Below w.heap.size w (w.alloc (.cells #[.int .i64 g.fn, .int .i64 g.pc, .int .i64 g.slots, .slice An g.nodes.length cn, .slice Ab g.blocks.length cb, vs] 28)) := (Below.refl _ _).alloc (Nat.le_refl _) _
 refine (graphSize _ g _ (GraphV.later HG.out b0 (Nat.le_refl _))).mono ?_
 rintro e w1 ⟨N, rfl, ⟨hN0, hN1, hN2⟩, hb1⟩
 obtain ⟨hc1, hf1⟩ := bcell hb1
 have b1 := b0.trans (hb1.mono b0.size)
 by_cases h1 : 3000 < N
 ·go_wp2_with fail
  go_ret
  exact ⟨_, rfl, fun h => by simp at h, b1⟩
 ·have hs := hN2 (by omega)
  have hn : g.nodes.length ≤ 3000 := by omega
  have hbl : g.blocks.length ≤ 3000 := by omega
  have hm0 : 0 ≤ (g.blocks.length : Int) * (g.nodes.length : Int) := Int.mul_nonneg (by omega) (by omega)
  have hm1 : (g.blocks.length : Int) * (g.nodes.length : Int) ≤ 9000000 := by
   have : g.blocks.length * g.nodes.length ≤ 3000 * 3000 := Nat.mul_le_mul hbl hn
   have h2 : ((g.blocks.length * g.nodes.length : Nat) : Int) ≤ 9000000 := by omega
   rwa [Int.natCast_mul] at h2
  have HS := Lib.hid hs; clear hs
  by_cases h2 : 20000 < (g.blocks.length : Int) * (g.nodes.length : Int)
  ·go_wp2_with fail
   go_ret
   exact ⟨_, rfl, fun h => by simp at h, b1⟩
  ·by_cases h3 : 600 < (g.nodes.length : Int)
   ·go_wp2_with fail
    go_ret
    exact ⟨_, rfl, fun h => by simp at h, b1⟩
   ·go_wp2_with fail
    go_ret
    have hp : g.blocks.length * g.nodes.length ≤ 20000 := by
     have h4 : ((g.blocks.length * g.nodes.length : Nat) : Int) ≤ 20000 := by rw [Int.natCast_mul]; omega
     omega
    exact ⟨_, rfl, fun _ => ⟨by have := HS.out; omega, hp, by omega⟩, b1⟩
end Go.Proofs.YtkmfdiboekoioaaGreat
