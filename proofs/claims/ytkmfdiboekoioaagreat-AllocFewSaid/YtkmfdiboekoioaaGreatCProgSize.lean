/- gearboxlaw01.ProgramSize answers some number and writes nothing that was there. Conditions: a program that lies in memory. -/
import Derived.Test.YtkmfdiboekoioaaGreatCProg2
import Derived.Test.YtkmfdiboekoioaaGreatRows
import Derived.WalkKit
import Derived.WalkSpells
import Derived.WalkLawsBesides
import Derived.Outline
import Derived.Lib.Hide
set_option linter.unusedSimpArgs false
set_option linter.unusedVariables false
namespace Go.Proofs.YtkmfdiboekoioaaGreat
open Go.RowKit
def SameInt (w : World) (e : Ending) (w' : World) : Prop := ∃ N : Int, e = .returned (.int .i64 N) ∧ w = w'
theorem getL {α : Type} {l : List α} {k : Nat} (h : k < l.length) : ∃ x, l[k]? = some x := ⟨l[k], List.getElem?_eq_getElem h⟩
theorem capsSize_any (a : Option Addr) (n c : Nat) (w : World) : Calls Tryz.prog 101 #[.slice a n c] w (SameInt w) := by
 go_enter Tryz.func101, Tryz.ntmps101
 go_wp2
 go_ret
 exact ⟨_, rfl, rfl⟩
theorem insesSize_any (a : Option Addr) (n c : Nat) (w : World) : Calls Tryz.prog 103 #[.slice a n c] w (SameInt w) := by
 go_enter Tryz.func103, Tryz.ntmps103
 go_wp2
 go_ret
 exact ⟨_, rfl, rfl⟩
theorem intsSize_any (a : Option Addr) (n c : Nat) (w : World) : Calls Tryz.prog 104 #[.slice a n c] w (SameInt w) := by
 go_enter Tryz.func104, Tryz.ntmps104
 go_wp2
 go_ret
 exact ⟨_, rfl, rfl⟩
theorem handlersSize_any (a : Option Addr) (n c : Nat) (w : World) : Calls Tryz.prog 105 #[.slice a n c] w (SameInt w) := by
 go_enter Tryz.func105, Tryz.ntmps105
 go_wp2
 go_ret
 exact ⟨_, rfl, rfl⟩
set_option maxHeartbeats 1000000 in
theorem constsSize_any (v : Value) (l : List ConstP) (w : World) (hw : ConstsV w w.heap.size v l) : Calls Tryz.prog 102 #[v] w (SameInt w) := by
 obtain ⟨A, c, rfl, _hc, hl, hw⟩ := hw
 have hlim : l.length ≤ 17592186044416 := by unfold lim at hl; omega
 clear hl
 have HW := Lib.hid hw; clear hw
 go_enter Tryz.func102, Tryz.ntmps102
 go_wp2
 go_loopw [3, 4] (fun t i wr => ∃ (k : Nat) (N : Int), k ≤ l.length ∧ i = .int .i64 k ∧ t = .int .i64 N ∧ w = wr) (fun _ i _ => l.length - (intOf i).toNat)
 case atStart => exact ⟨0, _, Nat.zero_le _, rfl, rfl, rfl⟩
 case round =>
  obtain ⟨k, N, hk, rfl, rfl, rfl⟩ := hrel
  by_cases hlt : k < l.length
  ·obtain ⟨b, off, rfl, hbB, hp⟩ := HW.out (by omega)
   obtain ⟨x, hx⟩ := getL hlt
   obtain ⟨f0, f1, f2, f3⟩ := hp k x hx
   clear hp HW hx
   by_cases hm : N ≤ 1048576
   ·go_wp2
    go_roundw
    case rel => exact ⟨k + 1, _, by omega, by go_num, rfl, trivial⟩
    case measure => simp [intOf]; omega
   ·go_wp2
    go_ret
    exact ⟨N, rfl, rfl⟩
  ·go_wp2
   go_ret
   exact ⟨N, rfl, rfl⟩
set_option maxHeartbeats 2000000 in
theorem fnSize_any (x : FnP) (y : FVals) (w : World) (hf : FnV w w.heap.size y x) : Calls Tryz.prog 56 #[fval x y] w (SomeInt w) := by
 obtain ⟨y3, y4, y5, y6, y7⟩ := y
 have HF := Lib.hid hf
 obtain ⟨hn, ⟨A3, c3, e3, z3⟩, ⟨A4, c4, e4, z4⟩, ⟨A5, c5, e5, z5⟩, ⟨A6, c6, e6, z6⟩, ⟨A7, c7, e7, z7⟩⟩ := hf
 clear z3 z4 z5 z6 z7
 simp only at e3 e4 e5 e6 e7
 subst e3 e4 e5 e6 e7
 have HCn : Hid (ConstsV (w.alloc (.cells (fnCells x ⟨.slice A3 x.caps.length c3, .slice A4 x.consts.length c4, .slice A5 x.code.length c5, .slice A6 x.lines.length c6, .slice A7 x.handlers.length c7⟩) 56)) (w.alloc (.cells (fnCells x ⟨.slice A3 x.caps.length c3, .slice A4 x.consts.length c4, .slice A5 x.code.length c5, .slice A6 x.lines.length c6, .slice A7 x.handlers.length c7⟩) 56)).heap.size (.slice A4 x.consts.length c4) x.consts) := Lib.hid (HF.out.later ((Below.refl w.heap.size w).alloc (Nat.le_refl _) _) (Nat.le_refl _)).consts
 unfold fnCells at HCn
 unfold fval fnCells
 go_enter Tryz.func56, Tryz.ntmps56
 go_wp2_with first
  | (go_at_call 101; refine (capsSize_any _ _ _ _).mono ?_; rintro e w9 ⟨N9, rfl, rfl⟩)
  | (go_at_call 102; refine (constsSize_any _ x.consts _ HCn.out).mono ?_; rintro e w9 ⟨N9, rfl, rfl⟩)
  | (go_at_call 103; refine (insesSize_any _ _ _ _).mono ?_; rintro e w9 ⟨N9, rfl, rfl⟩)
  | (go_at_call 104; refine (intsSize_any _ _ _ _).mono ?_; rintro e w9 ⟨N9, rfl, rfl⟩)
  | (go_at_call 105; refine (handlersSize_any _ _ _ _).mono ?_; rintro e w9 ⟨N9, rfl, rfl⟩)
  | fail
 all_goals go_ret
 all_goals exact ⟨_, rfl, (Below.refl _ _).alloc (Nat.le_refl _) _⟩
set_option maxHeartbeats 2000000 in
theorem fnsSize_any (v : Value) (p : List FnP) (w : World) (hw : ProgV w w.heap.size v p) : Calls Tryz.prog 16 #[v] w (SomeInt w) := by
 obtain ⟨A, c, rfl, _hc, hl, hw⟩ := hw
 have hlim : p.length ≤ 17592186044416 := by unfold lim at hl; omega
 clear hl
 have HW := Lib.hid hw; clear hw
 go_enter Tryz.func16, Tryz.ntmps16
 go_wp2
 go_loopw [3, 4] (fun t i wr => ∃ (k : Nat) (N : Int), k ≤ p.length ∧ i = .int .i64 k ∧ t = .int .i64 N ∧ Below w.heap.size w wr) (fun _ i _ => p.length - (intOf i).toNat)
 case atStart => exact ⟨0, _, Nat.zero_le _, rfl, rfl, Below.refl _ _⟩
 case round =>
  obtain ⟨k, N, hk, rfl, rfl, hb⟩ := hrel
  by_cases hlt : k < p.length
  ·obtain ⟨b, off, rfl, hbB, hp⟩ := HW.out (by omega)
   obtain ⟨x, hx⟩ := getL hlt
   obtain ⟨y, hf, hc⟩ := (hp k x hx).keep (Same.of_below hb) hbB
   have HF : Hid (FnV wr wr.heap.size y x) := Lib.hid (hf.mono hb.size)
   obtain ⟨y3, y4, y5, y6, y7⟩ := y
   have g0 : wr.cell? ⟨b, off + k * 8, none⟩ = some (.string x.name) := hc 0 (by omega)
   have g1 : wr.cell? ⟨b, off + k * 8 + 1, none⟩ = some (.int .i64 x.params) := hc 1 (by omega)
   have g2 : wr.cell? ⟨b, off + k * 8 + 2, none⟩ = some (.int .i64 x.locals) := hc 2 (by omega)
   have g3 : wr.cell? ⟨b, off + k * 8 + 3, none⟩ = some y3 := hc 3 (by omega)
   have g4 : wr.cell? ⟨b, off + k * 8 + 4, none⟩ = some y4 := hc 4 (by omega)
   have g5 : wr.cell? ⟨b, off + k * 8 + 5, none⟩ = some y5 := hc 5 (by omega)
   have g6 : wr.cell? ⟨b, off + k * 8 + 6, none⟩ = some y6 := hc 6 (by omega)
   have g7 : wr.cell? ⟨b, off + k * 8 + 7, none⟩ = some y7 := hc 7 (by omega)
   clear hp HW hx hf hc
   by_cases hm : N ≤ 1048576
   ·go_wp2_with (go_at_call 56; refine (fnSize_any x ⟨y3, y4, y5, y6, y7⟩ _ HF.out).mono ?_; rintro e w1 ⟨M, rfl, hb1⟩)
    go_wp2
    go_roundw
    case rel => exact ⟨k + 1, _, by omega, by go_num, rfl, hb.trans (hb1.mono hb.size)⟩
    case measure => simp [intOf]; omega
   ·go_wp2
    go_ret
    exact ⟨N, rfl, hb⟩
  ·go_wp2
   go_ret
   exact ⟨N, rfl, hb⟩
theorem programSize_any (v : Value) (p : List FnP) (w : World) (hw : ProgV w w.heap.size v p) : Calls Tryz.prog 6 #[v] w (SomeInt w) := by
 obtain ⟨A, c, e, z⟩ := hw
 have HW : Hid (ProgV w w.heap.size v p) := Lib.hid ⟨A, c, e, z⟩
 subst e
 clear z
 go_enter Tryz.func6, Tryz.ntmps6
 go_wp2_with (go_at_call 16; refine (fnsSize_any _ p _ HW.out).mono ?_; rintro e w1 ⟨M, rfl, hb1⟩)
 go_ret
 exact ⟨_, rfl, hb1⟩
end Go.Proofs.YtkmfdiboekoioaaGreat
