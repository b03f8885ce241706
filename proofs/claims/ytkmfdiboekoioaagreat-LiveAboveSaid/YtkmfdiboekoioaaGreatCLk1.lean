/- graph.Check's parts: within, all. No condition. -/
import Derived.Test.YtkmfdiboekoioaaGreatCDep
import Derived.Test.YtkmfdiboekoioaaGreatCRegFine
import Derived.Test.YtkmfdiboekoioaaGreatCAbove
set_option linter.unusedSimpArgs false
set_option linter.unusedVariables false
namespace Go.Proofs.YtkmfdiboekoioaaGreat
open Go.RowKit
theorem within_any (n m : Int) (t : Bool) (ht : t = (decide (0 ≤ n) && decide (n < m))) (w : World) : Calls Tryz.prog 38 #[.int .i64 n, .int .i64 m] w (fun e w' => e = .returned (.bool t) ∧ w' = w) := by
  subst ht
  by_cases h1 : 0 ≤ n
  · by_cases h2 : n < m
    · go_enter Tryz.func38, Tryz.ntmps38
      go_wp2
      go_ret
      simp [h1, h2]
    · go_enter Tryz.func38, Tryz.ntmps38
      go_wp2
      go_ret
      simp [h1, h2]
  · go_enter Tryz.func38, Tryz.ntmps38
    go_wp2
    go_ret
    simp [h1]
    try omega
/-- 'do all numbers hold?', whatever is asked. -/
theorem allNum_any (w : World) (n pf : Nat) (fs cs : Array Value) (I : World → Prop) (q : Nat → Bool) (hn : n ≤ 17592186044416) (hf : Enters pf) (hI : I w)
    (hp : ∀ (wr : World) (k : Nat), k < n → I wr → Calls Tryz.prog pf (fs.push (.int .i64 k) ++ cs) wr (fun e w' => e = .returned (.bool (q k)) ∧ I w')) :
    Calls Tryz.prog 43 #[.int .i64 n, .func (.func pf) fs cs] w (fun e w' => e = .returned (.bool ((List.range n).all q)) ∧ I w') := by
  have HI := Lib.hid hI; have HP := Lib.hid hp
  have hfr := hf
  unfold Enters at hfr
  clear hI hp
  go_enter Tryz.func43, Tryz.ntmps43
  go_wp2_with fail
  go_loopw [7] (fun i wr => ∃ k : Nat, k ≤ n ∧ i = .int .i64 k ∧ Hid (I wr) ∧ Hid (∀ j, j < k → q j = true)) (fun i _ => n - (intOf i).toNat)
  case atStart => exact ⟨0, Nat.zero_le _, rfl, HI, Lib.hid (fun j h => by omega)⟩
  case round =>
    obtain ⟨k, hk, rfl, HI2, HA⟩ := hrel
    by_cases hlt : k < n
    · have HC := Lib.hid (HP.out wr k hlt HI2.out)
      obtain ⟨t, ht⟩ : ∃ t : Bool, t = q k := ⟨_, rfl⟩
      rw [← ht] at HC
      have HT := Lib.hid ht
      clear ht
      cases t with
      | true =>
        go_wp2_with ((with_reducible refine Calls.mono HC.out ?_); rintro e w2 ⟨rfl, hi2⟩; have HI3 := Lib.hid hi2; clear hi2)
        go_roundw
        case rel => exact ⟨k + 1, by omega, by go_num, HI3, Lib.hid (fun j hj => by
          rcases Nat.lt_or_ge j k with h | h
          · exact HA.out j h
          · obtain rfl : j = k := by omega
            exact HT.out.symm)⟩
        case measure => simp [intOf]; omega
      | false =>
        go_wp2_with ((with_reducible refine Calls.mono HC.out ?_); rintro e w2 ⟨rfl, hi2⟩; have HI3 := Lib.hid hi2; clear hi2)
        go_ret
        refine ⟨?_, HI3.out⟩
        have e : (List.range n).all q = false := by
          rw [← Bool.not_eq_true, List.all_eq_true]
          intro h
          have := h k (List.mem_range.2 hlt)
          rw [← HT.out] at this; cases this
        rw [e]; rfl
    · go_wp2_with fail
      go_ret
      refine ⟨?_, HI2.out⟩
      have e : (List.range n).all q = true := by
        rw [List.all_eq_true]
        intro j hj
        exact HA.out j (by have := List.mem_range.1 hj; omega)
      rw [e]; rfl
end Go.Proofs.YtkmfdiboekoioaaGreat
