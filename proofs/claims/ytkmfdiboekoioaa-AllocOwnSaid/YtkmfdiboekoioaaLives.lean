/- gearboxlaw21.lives answers true. No condition. -/
import Derived.Test.YtkmfdiboekoioaaSumPure
namespace Go.Proofs.Ytkmfdiboekoioaa
open Go.RowKit
def LivesIs (w : World) (e : Ending) (w' : World) : Prop := e = .returned (.bool true) ∧ Below w.heap.size w w'
theorem GCtx.first {w : World} {xv : GVals} {g : GraphP} (hg : GraphV w w.heap.size xv g) : GCtx (w.alloc (.cells (gbox g xv) 26)) w.heap.size w.heap.size xv g :=
  ⟨hg.keep (Same.of_below ((Below.refl w.heap.size w).alloc (Nat.le_refl _) _)), by simp, Blk.new w _ _⟩
theorem five {k : Nat} (h : k < 5) : k = 0 ∨ k = 1 ∨ k = 2 ∨ k = 3 ∨ k = 4 := by omega
set_option maxRecDepth 100000 in
set_option maxHeartbeats 8000000 in
theorem lives_any (w : World) : Calls Try.prog 5 #[] w (LivesIs w) := by
  go_enter Try.func5, Try.ntmps5
  go_wp2_with first
    | (go_at_call 8; refine (sum_any _).mono ?_; rintro e w1 ⟨xv, rfl, hg1, hb1⟩; have HG1 := Lib.hid hg1; have HB1 := Lib.hid hb1; clear hb1; obtain ⟨vn, vb, vs⟩ := xv; obtain ⟨⟨An, cn, en, nh⟩, ⟨Ab, cb, eb, bh⟩, ⟨As, cs, es, sh⟩⟩ := hg1; simp only at en eb es; clear nh bh sh; subst en eb es; unfold gval; have HC1 := Lib.hid (GCtx.first HG1.out))
    | (go_at_call 9; refine (do_any _ sumG ⟨.slice An sumG.nodes.length cn, .slice Ab sumG.blocks.length cb, .slice As sumG.states.length cs⟩ sum_small HC1.out.graph).mono ?_; intro e w2 hd; obtain ⟨br, rfl, hk2, hb2⟩ := sum_do hd; have HK2 := Lib.hid hk2; have HB2 := Lib.hid hb2; have HC2 := Lib.hid (HC1.out.below hb2); clear hd hk2 hb2)
    | fail
  go_loopw [4, 5] (fun m i wr => ∃ k : Nat, m = .int .i64 ((min k 2 : Nat) : Int) ∧ i = .int .i64 k ∧ k ≤ 5 ∧ wr = w2) (fun m i _ => 5 - (intOf i).toNat)
  case atStart => exact ⟨0, rfl, rfl, by omega, rfl⟩
  case round =>
    obtain ⟨k, rfl, rfl, hk, rfl⟩ := hrel
    by_cases hlt : k < 5
    · have h0 := HK2.out.cell
      have d : wr.cell? ⟨br, k, none⟩ = some (.int .i64 (([0, 1, 0, 0, 0] : List Int).getD k 0)) := by
        rcases five hlt with rfl | rfl | rfl | rfl | rfl
        · exact h0 0
        · exact h0 1
        · exact h0 2
        · exact h0 3
        · exact h0 4
      clear h0
      go_wp2_with fail
      case roundEnd =>
        go_roundw
        case rel =>
          refine ⟨k + 1, congrArg (Value.int .i64) ?_, by go_num, by omega, trivial⟩
          rcases five hlt with rfl | rfl | rfl | rfl | rfl
          · simp only [List.getElem_cons_zero, List.getElem_cons_succ]
            have e : ∀ z : Int, z = 1 ∨ z = 2 → wrap64 z = z := fun z h => by unfold wrap64; omega
            rw [e _ (by omega)]
            decide
          · simp only [List.getElem_cons_zero, List.getElem_cons_succ]
            have e : ∀ z : Int, z = 1 ∨ z = 2 → wrap64 z = z := fun z h => by unfold wrap64; omega
            rw [e _ (by omega)]
            decide
          · simp only [List.getElem_cons_zero, List.getElem_cons_succ]
            have e : ∀ z : Int, z = 1 ∨ z = 2 → wrap64 z = z := fun z h => by unfold wrap64; omega
            rw [e _ (by omega)]
            decide
          · simp only [List.getElem_cons_zero, List.getElem_cons_succ]
            have e : ∀ z : Int, z = 1 ∨ z = 2 → wrap64 z = z := fun z h => by unfold wrap64; omega
            rw [e _ (by omega)]
            decide
          · simp only [List.getElem_cons_zero, List.getElem_cons_succ]
            have e : ∀ z : Int, z = 1 ∨ z = 2 → wrap64 z = z := fun z h => by unfold wrap64; omega
            rw [e _ (by omega)]
            decide
        case measure => simp [intOf]; omega
    · have e : k = 5 := by omega
      subst e
      obtain ⟨f0, f1, f2, f3, f4, f5⟩ := HC2.out.cells
      simp only at f3 f4 f5
      go_wp2_with first
        | (go_at_call 6; refine (check_any _ ⟨.slice An sumG.nodes.length cn, .slice Ab sumG.blocks.length cb, .slice As sumG.states.length cs⟩ sumG _ [0, 1, 0, 1, 0] ((HC3.out.alloc _).graph) sum_small (ints_blk (Blk.new _ _ _) (by simp) rfl (by decide) (by decide) (at5 rfl rfl rfl rfl rfl))).mono ?_; intro e w4 hd; obtain ⟨rfl, hb4⟩ := sum_check_yes hd; have HB4 := Lib.hid hb4; have HW4 := Lib.hid (Eq.refl w4); clear hd hb4)
        | (go_at_call 6; refine (check_any _ ⟨.slice An sumG.nodes.length cn, .slice Ab sumG.blocks.length cb, .slice As sumG.states.length cs⟩ sumG _ [0, 0, 0, 0, 0] ((HC2.out.alloc _).graph) sum_small (ints_blk (Blk.new _ _ _) (by simp) rfl (by decide) (by decide) (at5 rfl rfl rfl rfl rfl))).mono ?_; intro e w3 hd; obtain ⟨rfl, hb3⟩ := sum_check_no hd; have HB3 := Lib.hid hb3; have HC3 := Lib.hid ((HC2.out.alloc (.cells #[.int .i64 0, .int .i64 0, .int .i64 0, .int .i64 0, .int .i64 0] 3)).below hb3); clear hd hb3; obtain ⟨f0, f1, f2, f3, f4, f5⟩ := HC3.out.cells; simp only at f3 f4 f5)
        | fail
      go_ret
      refine ⟨rfl, ?_⟩
      have b1 := HB1.out.alloc HB1.out.size (.cells (gbox sumG ⟨.slice An sumG.nodes.length cn, .slice Ab sumG.blocks.length cb, .slice As sumG.states.length cs⟩) 26)
      have b2 := b1.trans (HB2.out.mono b1.size)
      have b3 := b2.alloc b2.size (.cells #[.int .i64 0, .int .i64 0, .int .i64 0, .int .i64 0, .int .i64 0] 3)
      have b4 := b3.trans (HB3.out.mono b3.size)
      have b5 := b4.alloc b4.size (.cells #[.int .i64 0, .int .i64 1, .int .i64 0, .int .i64 1, .int .i64 0] 3)
      exact b5.trans (HB4.out.mono b5.size)
end Go.Proofs.Ytkmfdiboekoioaa
