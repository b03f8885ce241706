/- Parts of the reference 9: constants, ends, caps, what an instruction takes, its number. Conditions: functions that lie in memory. -/
import Derived.Test.YtkmfdiboekoioaaGreatCRfNode
set_option linter.unusedSimpArgs false
set_option linter.unusedVariables false
namespace Go.Proofs.YtkmfdiboekoioaaGreat
open Go.RowKit
set_option maxHeartbeats 4000000 in
theorem ref09ends_any (w : World) (k : Int) : Calls Tryz.prog 108 #[.int .u8 k] w (fun e w' => e = .returned (.bool ((k == 28) || ((k == 29) || (k == 21)))) ∧ w' = w) := by
 rcases h1 : (k == 28) with _ | _ <;> rcases h2 : (k == 29) with _ | _ <;> rcases h3 : (k == 21) with _ | _
 all_goals
  go_enter Tryz.func108, Tryz.ntmps108
  go_wp2_with fail
  go_ret
  exact ⟨rfl, by trivial⟩
set_option maxHeartbeats 4000000 in
theorem ref09constant_any (w : World) (x : ConstP) (hx : x.s.size ≤ 140737488355328) : Calls Tryz.prog 106 #[.agg #[.int .u8 x.kind, .int .i64 x.n, .string x.s]] w (SomeBool w) := by
 rcases h1 : (x.kind == 2) with _ | _ <;> rcases h2 : (x.kind == 3) with _ | _
 all_goals
  go_enter Tryz.func106, Tryz.ntmps106
  go_wp2_with fail
 all_goals go_ret
 all_goals exact ⟨_, rfl, (Below.refl _ _).alloc (Nat.le_refl _) _⟩
set_option maxHeartbeats 4000000 in
theorem ref09Takes_any (w : World) (k a : Int) : Calls Tryz.prog 110 #[.agg #[.int .u8 k, .int .i64 a]] w (fun e w' => (∃ n m : Int, e = .returned (.tuple #[.int .i64 n, .int .i64 m])) ∧ Below w.heap.size w w') := by
 go_enter Tryz.func110, Tryz.ntmps110
 go_wp2_with fail
 all_goals go_ret2
 all_goals exact ⟨⟨_, _, rfl⟩, (Below.refl _ _).alloc (Nat.le_refl _) _⟩
/-- What is known of an instruction whose number may be. -/
structure NumF (np : Nat) (x : FnP) (pc : Nat) (i : InsP) : Prop where
 fn : i.op = 26 → 1 ≤ i.a ∧ i.a < (np : Int)
 ahead : i.op = 19 ∨ i.op = 20 → (pc : Int) < i.a ∧ i.a < (x.code.length : Int)
 back : i.op = 21 → 0 ≤ i.a ∧ i.a ≤ (pc : Int)
set_option maxRecDepth 100000 in
set_option maxHeartbeats 8000000 in
theorem ref09number_any (w : World) (A : Option Addr) (np c : Nat) (x : FnP) (y : FVals) (pc : Nat) (i : InsP) (hnp : np ≤ 17592186044416) (hf : FnV w w.heap.size y x) (hi : x.code[pc]? = some i) :
  Calls Tryz.prog 107 #[.slice A np c, fval x y, .int .i64 pc] w (BoolIf (NumF np x pc i) w) := by
 have HI := Lib.hid hi
 obtain ⟨A3, c3, A4, c4, A5, c5, A6, c6, A7, c7, ey, k3, k4, k5, k6, k7⟩ := fn_shape hf
 subst ey
 have hpl : pc < x.code.length := (List.getElem?_eq_some_iff.1 hi).1
 obtain ⟨B5, o5, e5, hb5, hq⟩ : ∃ b off, A5 = some ⟨b, off, none⟩ ∧ b < w.heap.size ∧ ∀ j z, x.code[j]? = some z → InsAt w b (off + j * 2) z := by
  obtain ⟨A, c, e, _, _, h⟩ := hf.code
  injection e with e _ _
  obtain ⟨b, off, e2, h1, h2⟩ := h (by omega)
  exact ⟨b, off, e.trans e2, h1, h2⟩
 subst e5
 obtain ⟨f0, f1, _⟩ := hq pc i hi
 clear hq hi hf
 obtain ⟨w1, hw1⟩ : ∃ w1, w1 = (w.alloc (.cells #[.string x.name, .int .i64 x.params, .int .i64 x.locals, .slice A3 x.caps.length c3, .slice A4 x.consts.length c4, .slice (some ⟨B5, o5, none⟩) x.code.length c5, .slice A6 x.lines.length c6, .slice A7 x.handlers.length c7] 56)).alloc (.cells #[.int .u8 i.op, .int .i64 i.a] 117) := ⟨_, rfl⟩
 have hk : Blk w1 w.heap.size 56 #[.string x.name, .int .i64 x.params, .int .i64 x.locals, .slice A3 x.caps.length c3, .slice A4 x.consts.length c4, .slice (some ⟨B5, o5, none⟩) x.code.length c5, .slice A6 x.lines.length c6, .slice A7 x.handlers.length c7] := by rw [hw1]; exact (Blk.new _ _ _).alloc _
 have hk2 : Blk w1 (w.heap.size + 1) 117 #[.int .u8 i.op, .int .i64 i.a] := by rw [hw1]; simpa using Blk.new (w.alloc _) _ _
 have HB1 : Hid (Below w.heap.size w w1) := Lib.hid (by rw [hw1]; exact ((Below.refl _ _).alloc (Nat.le_refl _) _).alloc (by simp) _)
 have q2 : w1.cell? ⟨w.heap.size, 2, none⟩ = some (.int .i64 x.locals) := hk.cell 2
 have q3 : w1.cell? ⟨w.heap.size, 3, none⟩ = some (.slice A3 x.caps.length c3) := hk.cell 3
 have q4 : w1.cell? ⟨w.heap.size, 4, none⟩ = some (.slice A4 x.consts.length c4) := hk.cell 4
 have q5 : w1.cell? ⟨w.heap.size, 5, none⟩ = some (.slice (some ⟨B5, o5, none⟩) x.code.length c5) := hk.cell 5
 have r0 : w1.cell? ⟨w.heap.size + 1, 0, none⟩ = some (.int .u8 i.op) := hk2.cell 0
 have r1 : w1.cell? ⟨w.heap.size + 1, 1, none⟩ = some (.int .i64 i.a) := hk2.cell 1
 have ql := hk.lt
 have rl := hk2.lt
 clear hk hk2
 unfold fval fnCells
 go_enter Tryz.func107, Tryz.ntmps107
 go_upto_region 2 with fail
 rw [← hw1]
 clear hw1 f0 f1
 go_wp2_with fail
 all_goals go_ret
 all_goals
  refine ⟨⟨_, rfl, fun h => ?_⟩, HB1.out⟩
  refine ⟨fun ho => ?_, fun ho => ?_, fun ho => ?_⟩
  all_goals simp only [beq_iff_eq, beq_eq_false_iff_ne, ne_eq, decide_eq_true_eq] at *
  all_goals first
   | omega
   | (rw [ho] at *; omega)
   | (exfalso; cases h; done)
   | (rcases ho with ho | ho <;> omega)
end Go.Proofs.YtkmfdiboekoioaaGreat

/- Parts of the reference 9: can a function be made here; the places next to one. Conditions: functions that lie in memory. -/
namespace Go.Proofs.YtkmfdiboekoioaaGreat
open Go.RowKit
set_option maxRecDepth 100000 in
set_option maxHeartbeats 8000000 in
theorem ref09caps_any (w : World) (x x' : FnP) (y y' : FVals) (hf : FnV w w.heap.size y x) (hf' : FnV w w.heap.size y' x') :
    Calls Tryz.prog 109 #[fval x y, fval x' y'] w (SomeBool w) := by
  obtain ⟨A3, c3, A4, c4, A5, c5, A6, c6, A7, c7, ey, k3, k4, k5, k6, k7⟩ := fn_shape hf
  subst ey
  obtain ⟨B3, d3, B4, d4, B5, d5, B6, d6, B7, d7, ey, m3, m4, m5, m6, m7⟩ := fn_shape hf'
  subst ey
  have HCp := Lib.hid hf'.caps
  clear hf hf'
  obtain ⟨w1, hw1⟩ : ∃ w1, w1 = (w.alloc (.cells #[.string x.name, .int .i64 x.params, .int .i64 x.locals, .slice A3 x.caps.length c3, .slice A4 x.consts.length c4, .slice A5 x.code.length c5, .slice A6 x.lines.length c6, .slice A7 x.handlers.length c7] 56)).alloc (.cells #[.string x'.name, .int .i64 x'.params, .int .i64 x'.locals, .slice B3 x'.caps.length d3, .slice B4 x'.consts.length d4, .slice B5 x'.code.length d5, .slice B6 x'.lines.length d6, .slice B7 x'.handlers.length d7] 56) := ⟨_, rfl⟩
  have hk : Blk w1 w.heap.size 56 #[.string x.name, .int .i64 x.params, .int .i64 x.locals, .slice A3 x.caps.length c3, .slice A4 x.consts.length c4, .slice A5 x.code.length c5, .slice A6 x.lines.length c6, .slice A7 x.handlers.length c7] := by rw [hw1]; exact (Blk.new _ _ _).alloc _
  have hk2 : Blk w1 (w.heap.size + 1) 56 #[.string x'.name, .int .i64 x'.params, .int .i64 x'.locals, .slice B3 x'.caps.length d3, .slice B4 x'.consts.length d4, .slice B5 x'.code.length d5, .slice B6 x'.lines.length d6, .slice B7 x'.handlers.length d7] := by rw [hw1]; simpa using Blk.new (w.alloc _) _ _
  have HB1 : Hid (Below w.heap.size w w1) := Lib.hid (by rw [hw1]; exact ((Below.refl _ _).alloc (Nat.le_refl _) _).alloc (by simp) _)
  have HK := Lib.hid hk; have HK2 := Lib.hid hk2
  clear hk hk2
  unfold fval fnCells
  go_enter Tryz.func109, Tryz.ntmps109
  go_upto_region 1 with fail
  rw [← hw1]
  clear hw1
  go_wp2_with fail
  go_loopw [5] (fun t wr => ∃ k : Nat, k ≤ x'.caps.length ∧ t = .int .i64 k ∧ Hid (Below w1.heap.size w1 wr)) (fun t _ => x'.caps.length - (intOf t).toNat)
  case atStart => exact ⟨0, Nat.zero_le _, rfl, Lib.hid (Below.refl _ _)⟩
  case round =>
    obtain ⟨k, hk, rfl, HBr⟩ := hrel
    obtain ⟨wq, rfl⟩ : ∃ wq : World, wq = wr := ⟨_, rfl⟩
    have HBw : Hid (Below w.heap.size w wq) := Lib.hid (HB1.out.trans (HBr.out.mono HB1.out.size))
    have h1 := HK.out.below HBr.out HK.out.lt
    have h2 := HK2.out.below HBr.out HK2.out.lt
    have p2 : wq.cell? ⟨w.heap.size, 2, none⟩ = some (.int .i64 x.locals) := h1.cell 2
    have p3 : wq.cell? ⟨w.heap.size, 3, none⟩ = some (.slice A3 x.caps.length c3) := h1.cell 3
    have q3 : wq.cell? ⟨w.heap.size + 1, 3, none⟩ = some (.slice B3 x'.caps.length d3) := h2.cell 3
    have pl := h1.lt
    have ql := h2.lt
    clear h1 h2
    by_cases hlt : k < x'.caps.length
    · obtain ⟨A, c, e, _, _, hp⟩ := HCp.out
      injection e with e1 e2 e3
      obtain ⟨b, off, e4, hbB, hp⟩ := hp (by omega)
      rw [← e1] at e4
      subst e4
      obtain ⟨z, hz⟩ := rget hlt
      obtain ⟨f0, f1⟩ := (hp k z hz).keep (Same.of_below HBw.out) hbB
      clear hp hz e1 e2 e3
      obtain ⟨w2, hw2⟩ : ∃ w2, w2 = wq.alloc (.cells #[.bool z.up, .int .i64 z.n] 211) := ⟨_, rfl⟩
      have hb2 : Below wq.heap.size wq w2 := by rw [hw2]; exact (Below.refl _ _).alloc (Nat.le_refl _) _
      have hk3 : Blk w2 wq.heap.size 211 #[.bool z.up, .int .i64 z.n] := by rw [hw2]; exact Blk.new _ _ _
      have s0 : w2.cell? ⟨wq.heap.size, 0, none⟩ = some (.bool z.up) := hk3.cell 0
      have s1 : w2.cell? ⟨wq.heap.size, 1, none⟩ = some (.int .i64 z.n) := hk3.cell 1
      have sl := hk3.lt
      have P2 := (hb2.cell (p := ⟨w.heap.size, 2, none⟩) pl).trans p2
      have P3 := (hb2.cell (p := ⟨w.heap.size, 3, none⟩) pl).trans p3
      have HB2 := Lib.hid (HBr.out.trans (hb2.mono HBr.out.size))
      have HW2 := Lib.hid (HBw.out.trans (hb2.mono HBw.out.size))
      go_upto_region 5 with fail
      rw [← hw2]
      clear hw2 hb2 hk3 p2 p3 q3 f0 f1
      rcases hu : z.up with _ | _
      all_goals
        rw [hu] at s0
        rcases d1 : decide (z.n < 0) with _ | _
        all_goals rcases d2 : decide ((x.caps.length : Int) ≤ z.n) with _ | _
        all_goals rcases d3 : decide (x.locals ≤ z.n) with _ | _
        all_goals go_wp2_with fail
        all_goals first
          | (go_ret; exact ⟨_, rfl, HW2.out⟩)
          | (go_roundw
             case rel => exact ⟨k + 1, by omega, by go_num, HB2⟩
             case measure => simp [intOf]; omega)
    · go_wp2_with fail
      go_ret
      exact ⟨_, rfl, HBw.out⟩
theorem lit_ints1 (w : World) (a : Int) : IntsV (w.alloc (.cells #[.int .i64 a] 3)) (w.alloc (.cells #[.int .i64 a] 3)).heap.size (.slice (some ⟨w.heap.size, 0, none⟩) 1 1) [a] :=
 ⟨_, 1, rfl, Nat.le_refl 1, (show 1 ≤ lim by decide), fun _ => ⟨w.heap.size, 0, rfl, by simp, fun j x h => by
  have hb := Blk.new w 3 #[.int .i64 a]
  cases j with
  | zero => injection h with h; subst h; exact hb.cell 0
  | succ j => simp at h⟩⟩
theorem lit_ints2 (w : World) (a b : Int) : IntsV (w.alloc (.cells #[.int .i64 a, .int .i64 b] 3)) (w.alloc (.cells #[.int .i64 a, .int .i64 b] 3)).heap.size (.slice (some ⟨w.heap.size, 0, none⟩) 2 2) [a, b] :=
 ⟨_, 2, rfl, Nat.le_refl 2, (show 2 ≤ lim by decide), fun _ => ⟨w.heap.size, 0, rfl, by simp, fun j x h => by
  have hb := Blk.new w 3 #[.int .i64 a, .int .i64 b]
  cases j with
  | zero => injection h with h; subst h; exact hb.cell 0
  | succ j => cases j with
   | zero => injection h with h; subst h; exact hb.cell 1
   | succ j => simp at h⟩⟩
/-- The places next to one, as the reference 9 lists them. -/
def nexts09 (i : InsP) (pc : Nat) : List Int := if i.op = 28 ∨ i.op = 29 then [] else if i.op = 19 ∨ i.op = 21 then [i.a] else if i.op = 20 then [(pc : Int) + 1, i.a] else [(pc : Int) + 1]
def Nexts09 (i : InsP) (pc : Nat) (w : World) (e : Ending) (w' : World) : Prop := ∃ v, e = .returned v ∧ IntsV w' w'.heap.size v (nexts09 i pc) ∧ Below w.heap.size w w' ∧ ∀ k, v.ownBlock = some k → w.heap.size ≤ k
set_option maxRecDepth 100000 in
set_option maxHeartbeats 8000000 in
theorem ref09Nexts_any (w : World) (x : FnP) (y : FVals) (pc : Nat) (i : InsP) (hf : FnV w w.heap.size y x) (hi : x.code[pc]? = some i) :
  Calls Tryz.prog 112 #[fval x y, .int .i64 pc] w (Nexts09 i pc w) := by
 obtain ⟨A3, c3, A4, c4, A5, c5, A6, c6, A7, c7, ey, k3, k4, k5, k6, k7⟩ := fn_shape hf
 subst ey
 have hpl : pc < x.code.length := (List.getElem?_eq_some_iff.1 hi).1
 obtain ⟨B5, o5, e5, hb5, hq⟩ : ∃ b off, A5 = some ⟨b, off, none⟩ ∧ b < w.heap.size ∧ ∀ j z, x.code[j]? = some z → InsAt w b (off + j * 2) z := by
  obtain ⟨A, c, e, _, _, h⟩ := hf.code
  injection e with e _ _
  obtain ⟨b, off, e2, h1, h2⟩ := h (by omega)
  exact ⟨b, off, e.trans e2, h1, h2⟩
 subst e5
 obtain ⟨f0, f1, _⟩ := hq pc i hi
 clear hq hi hf
 unfold fval fnCells
 obtain ⟨w1, hw1⟩ : ∃ w1, w1 = (w.alloc (.cells #[.string x.name, .int .i64 x.params, .int .i64 x.locals, .slice A3 x.caps.length c3, .slice A4 x.consts.length c4, .slice (some ⟨B5, o5, none⟩) x.code.length c5, .slice A6 x.lines.length c6, .slice A7 x.handlers.length c7] 56)).alloc (.cells #[.int .u8 i.op, .int .i64 i.a] 117) := ⟨_, rfl⟩
 have hk2 : Blk w1 (w.heap.size + 1) 117 #[.int .u8 i.op, .int .i64 i.a] := by rw [hw1]; simpa using Blk.new (w.alloc _) _ _
 have HB1 : Hid (Below w.heap.size w w1) := Lib.hid (by rw [hw1]; exact ((Below.refl _ _).alloc (Nat.le_refl _) _).alloc (by simp) _)
 have r0 : w1.cell? ⟨w.heap.size + 1, 0, none⟩ = some (.int .u8 i.op) := hk2.cell 0
 have r1 : w1.cell? ⟨w.heap.size + 1, 1, none⟩ = some (.int .i64 i.a) := hk2.cell 1
 have rl := hk2.lt
 clear hk2
 go_enter Tryz.func112, Tryz.ntmps112
 go_upto_region 2 with fail
 rw [← hw1]
 clear hw1 f0 f1
 go_wp2_with fail
 all_goals go_ret
 all_goals simp only [beq_iff_eq, beq_eq_false_iff_ne, ne_eq] at *
 all_goals refine ⟨_, rfl, ?_, ?_, ?_⟩
 all_goals first
  | exact HB1.out
  | (intro k e; simp [Value.ownBlock] at e <;> (have := HB1.out.size; omega))
  | exact HB1.out.alloc HB1.out.size _
  | (rw [show nexts09 i pc = [] from if_pos (by omega)]; exact IntsV.nil _ _)
  | (rw [show nexts09 i pc = [i.a] from by unfold nexts09; rw [if_neg (by omega), if_pos (by omega)]]; exact lit_ints1 _ _)
  | (rw [show nexts09 i pc = [(pc : Int) + 1, i.a] from by unfold nexts09; rw [if_neg (by omega), if_neg (by omega), if_pos (by omega)]]; exact lit_ints2 _ _ _)
  | (rw [show nexts09 i pc = [(pc : Int) + 1] from by unfold nexts09; rw [if_neg (by omega), if_neg (by omega), if_neg (by omega)]]; exact lit_ints1 _ _)
end Go.Proofs.YtkmfdiboekoioaaGreat
