/- The head of a function, as the reference 9 looks at it: some answer; yes: its handlers are inside its code, and there is some. Conditions: a function that lies in memory. -/
import Derived.Test.YtkmfdiboekoioaaGreatCRfVer1
import Derived.BigGuardPart
set_option linter.unusedSimpArgs false
set_option linter.unusedVariables false
namespace Go.Proofs.YtkmfdiboekoioaaGreat
open Go.RowKit
structure HeadF (x : FnP) : Prop where
 pos : 1 ≤ x.code.length
 len : x.code.length ≤ 16384
 hands : ∀ h ∈ x.handlers, 0 ≤ h.from_ ∧ h.from_ < h.to_ ∧ h.to_ ≤ h.at_ ∧ h.at_ < (x.code.length : Int)
set_option maxRecDepth 100000 in
set_option maxHeartbeats 16000000 in
theorem ref09head_any (w : World) (x : FnP) (y : FVals) (main : Bool) (hf : FnV w w.heap.size y x) : Calls Tryz.prog 57 #[fval x y, .bool main] w (BoolIf (HeadF x) w) := by
  have HF := Lib.hid hf
  obtain ⟨A3, c3, A4, c4, A5, c5, A6, c6, A7, c7, ey, k3, k4, k5, k6, k7⟩ := fn_shape hf
  subst ey
  have hname := hf.name
  clear hf
  obtain ⟨w1, hw1⟩ : ∃ w1, w1 = w.alloc (.cells #[.string x.name, .int .i64 x.params, .int .i64 x.locals, .slice A3 x.caps.length c3, .slice A4 x.consts.length c4, .slice A5 x.code.length c5, .slice A6 x.lines.length c6, .slice A7 x.handlers.length c7] 56) := ⟨_, rfl⟩
  have HK : Hid (Blk w1 w.heap.size 56 #[.string x.name, .int .i64 x.params, .int .i64 x.locals, .slice A3 x.caps.length c3, .slice A4 x.consts.length c4, .slice A5 x.code.length c5, .slice A6 x.lines.length c6, .slice A7 x.handlers.length c7]) := Lib.hid (by rw [hw1]; exact Blk.new _ _ _)
  have HB1 : Hid (Below w.heap.size w w1) := Lib.hid (by rw [hw1]; exact (Below.refl _ _).alloc (Nat.le_refl _) _)
  have q0 : w1.cell? ⟨w.heap.size, 0, none⟩ = some (.string x.name) := HK.out.cell 0
  have q1 : w1.cell? ⟨w.heap.size, 1, none⟩ = some (.int .i64 x.params) := HK.out.cell 1
  have q2 : w1.cell? ⟨w.heap.size, 2, none⟩ = some (.int .i64 x.locals) := HK.out.cell 2
  have q3 : w1.cell? ⟨w.heap.size, 3, none⟩ = some (.slice A3 x.caps.length c3) := HK.out.cell 3
  have q4 : w1.cell? ⟨w.heap.size, 4, none⟩ = some (.slice A4 x.consts.length c4) := HK.out.cell 4
  have q5 : w1.cell? ⟨w.heap.size, 5, none⟩ = some (.slice A5 x.code.length c5) := HK.out.cell 5
  have q6 : w1.cell? ⟨w.heap.size, 6, none⟩ = some (.slice A6 x.lines.length c6) := HK.out.cell 6
  have q7 : w1.cell? ⟨w.heap.size, 7, none⟩ = some (.slice A7 x.handlers.length c7) := HK.out.cell 7
  have ql := HK.out.lt
  unfold fval fnCells
  go_enter Tryz.func57, Tryz.ntmps57
  go_upto_region 1 with fail
  rw [← hw1]
  clear hw1
  go_upto_region 2 with fail
  go_upto_region 4 with fail
  all_goals first
    | (go_ret; exact ⟨⟨false, rfl, fun h => by cases h⟩, HB1.out⟩)
    | skip
  all_goals go_upto_region 6 with fail
  all_goals first
    | (go_ret; exact ⟨⟨false, rfl, fun h => by cases h⟩, HB1.out⟩)
    | skip
  all_goals
    have hlen : x.lines.length = x.code.length ∧ 1 ≤ x.code.length ∧ x.code.length ≤ 16384 := by
      simp only [bne_eq_false_iff_eq] at *
      omega
    have HLen := Lib.hid hlen
    clear hlen
    go_wp2_with fail
    go_loopw [6] (fun t wr => ∃ k : Nat, k ≤ x.consts.length ∧ t = .int .i64 k ∧ Hid (Below w1.heap.size w1 wr)) (fun t _ => x.consts.length - (intOf t).toNat)
    case atStart => exact ⟨0, Nat.zero_le _, rfl, Lib.hid (Below.refl _ _)⟩
    case round =>
      obtain ⟨k, hk, rfl, HBr⟩ := hrel
      obtain ⟨wq, rfl⟩ : ∃ wq : World, wq = wr := ⟨_, rfl⟩
      have HBw : Hid (Below w.heap.size w wq) := Lib.hid (HB1.out.trans (HBr.out.mono HB1.out.size))
      have hk1 := HK.out.below HBr.out HK.out.lt
      have p4 : wq.cell? ⟨w.heap.size, 4, none⟩ = some (.slice A4 x.consts.length c4) := hk1.cell 4
      have pl := hk1.lt
      by_cases hlt : k < x.consts.length
      · obtain ⟨A, c, e, _, _, hp⟩ := (HF.out.keep (Same.of_below HBw.out)).consts
        injection e with e1 e2 e3
        obtain ⟨b, off, e4, hbB, hp⟩ := hp (by omega)
        rw [← e1] at e4
        subst e4
        obtain ⟨z, hz⟩ := rget hlt
        obtain ⟨f0, f1, f2, f3⟩ := hp k z hz
        clear hp hz e1 e2 e3 hk1 q0 q1 q2 q3 q4 q5 q6 q7
        go_wp2_with (go_at_call 106; refine (ref09constant_any _ z f3).mono ?_; rintro e w3 ⟨t, rfl, hb3⟩; have HB3 := Lib.hid hb3; clear hb3; cases t)
        · go_ret
          exact ⟨⟨false, rfl, fun h => by cases h⟩, HBw.out.trans (HB3.out.mono HBw.out.size)⟩
        · go_roundw
          case rel => exact ⟨k + 1, by omega, by go_num, Lib.hid (HBr.out.trans (HB3.out.mono HBr.out.size))⟩
          case measure => simp [intOf]; omega
      · have p6 : wq.cell? ⟨w.heap.size, 6, none⟩ = some (.slice A6 x.lines.length c6) := hk1.cell 6
        have p7 : wq.cell? ⟨w.heap.size, 7, none⟩ = some (.slice A7 x.handlers.length c7) := hk1.cell 7
        have HK4 := Lib.hid hk1
        have HPos := HLen.out.2.1
        have HLl := HLen.out.1
        have HHi := Lib.hid HLen.out.2.2
        have HEq := Lib.hid HLl
        clear HLl hk1 q0 q1 q2 q3 q4 q5 q6 q7
        go_wp2_with fail
        go_loopw [7] (fun t w3 => ∃ k : Nat, k ≤ x.code.length ∧ t = .int .i64 k ∧ w3 = wq) (fun t _ => x.code.length - (intOf t).toNat)
        case atStart => exact ⟨0, Nat.zero_le _, rfl, by trivial⟩
        case round =>
          obtain ⟨k2, hk2, rfl, hw⟩ := hrel
          subst hw
          obtain ⟨wv, rfl⟩ : ∃ wv : World, wv = wr := ⟨_, rfl⟩
          by_cases hlt2 : k2 < x.code.length
          · have hl6 : k2 < x.lines.length := by have := HEq.out; omega
            obtain ⟨B6, o6, rfl, _, hp6⟩ := (HF.out.keep (Same.of_below HBw.out)).lines.cells hl6
            obtain ⟨z, hz⟩ := rget hl6
            have c0 := hp6 k2 z hz
            clear hp6 hz
            rcases d : decide (z < 0) with _ | _
            · go_wp2_with fail
              go_roundw
              case rel => exact ⟨k2 + 1, by omega, by go_num, by trivial⟩
              case measure => simp [intOf]; omega
            · go_wp2_with fail
              go_ret
              exact ⟨⟨false, rfl, fun h => by cases h⟩, HBw.out⟩
          · go_wp2_with fail
            go_loopw [8] (fun t wr => ∃ k : Nat, k ≤ x.handlers.length ∧ t = .int .i64 k ∧ Hid (Below wv.heap.size wv wr) ∧ Hid (∀ h ∈ x.handlers.take k, 0 ≤ h.from_ ∧ h.from_ < h.to_ ∧ h.to_ ≤ h.at_ ∧ h.at_ < (x.code.length : Int))) (fun t _ => x.handlers.length - (intOf t).toNat)
            case atStart => exact ⟨0, Nat.zero_le _, rfl, Lib.hid (Below.refl _ _), Lib.hid (by simp)⟩
            case round =>
              obtain ⟨k8, hk8, rfl, HBs, HH⟩ := hrel
              obtain ⟨ws, rfl⟩ : ∃ ws : World, ws = wr := ⟨_, rfl⟩
              have HBt : Hid (Below w.heap.size w ws) := Lib.hid (HBw.out.trans (HBs.out.mono HBw.out.size))
              have hk9 := HK4.out.below HBs.out HK4.out.lt
              have p7' : ws.cell? ⟨w.heap.size, 7, none⟩ = some (.slice A7 x.handlers.length c7) := hk9.cell 7
              have pl' := hk9.lt
              clear hk9 p4 p6 p7
              by_cases hlt8 : k8 < x.handlers.length
              · obtain ⟨A, c, e, _, _, hp⟩ := (HF.out.keep (Same.of_below HBt.out)).handlers
                injection e with e1 e2 e3
                obtain ⟨b, off, e4, hbB, hp⟩ := hp (by omega)
                rw [← e1] at e4
                subst e4
                obtain ⟨z, hz⟩ := rget hlt8
                obtain ⟨f0, f1, f2, f3⟩ := hp k8 z hz
                have HZ := Lib.hid hz
                clear hp hz e1 e2 e3
                rcases d1 : decide (z.from_ < 0) with _ | _
                · rcases d2 : decide (z.to_ ≤ z.from_) with _ | _
                  · rcases d3 : decide (z.at_ < z.to_) with _ | _
                    · rcases d4 : decide ((x.code.length : Int) ≤ z.at_) with _ | _
                      · have HNew : Hid (∀ h ∈ x.handlers.take (k8 + 1), 0 ≤ h.from_ ∧ h.from_ < h.to_ ∧ h.to_ ≤ h.at_ ∧ h.at_ < (x.code.length : Int)) := Lib.hid (fun h hh => by
                          rw [List.take_add_one, HZ.out] at hh
                          rcases List.mem_append.1 hh with hh | hh
                          · exact HH.out h hh
                          · simp at hh; subst hh
                            have := of_decide_eq_false d1; have := of_decide_eq_false d2; have := of_decide_eq_false d3; have := of_decide_eq_false d4
                            omega)
                        go_wp2_with fail
                        all_goals first
                          | (go_ret; exact ⟨⟨false, rfl, fun h => by cases h⟩, HBt.out.alloc HBt.out.size _⟩)
                          | (go_roundw
                             case rel => exact ⟨k8 + 1, by omega, by go_num, Lib.hid (HBs.out.alloc HBs.out.size _), HNew⟩
                             case measure => simp [intOf]; omega)
                      · go_wp2_with fail
                        go_ret
                        exact ⟨⟨false, rfl, fun h => by cases h⟩, HBt.out.alloc HBt.out.size _⟩
                    · go_wp2_with fail
                      go_ret
                      exact ⟨⟨false, rfl, fun h => by cases h⟩, HBt.out.alloc HBt.out.size _⟩
                  · go_wp2_with fail
                    go_ret
                    exact ⟨⟨false, rfl, fun h => by cases h⟩, HBt.out.alloc HBt.out.size _⟩
                · go_wp2_with fail
                  go_ret
                  exact ⟨⟨false, rfl, fun h => by cases h⟩, HBt.out.alloc HBt.out.size _⟩
              · go_wp2_with fail
                go_ret
                exact ⟨⟨true, rfl, fun _ => ⟨HPos, HHi.out, fun h hh => HH.out h (by rw [List.take_of_length_le (by omega)]; exact hh)⟩⟩, HBt.out⟩
end Go.Proofs.YtkmfdiboekoioaaGreat
