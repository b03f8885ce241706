/- 'Does a number stand in a list?', as the references 16 and 21 have it. Conditions: a slice that lies in memory. -/
import Derived.Test.YtkmfdiboekoioaaGreatCMaps
import Derived.Test.YtkmfdiboekoioaaGreatCProg2
import Derived.Deep.Cut
import Derived.Deep.CutRange
import Derived.Deep.DeepCutAuto
import Derived.BigQuiet
import Derived.Deep.LoopGhost
import Derived.Laws.Rows
import Derived.Deep.RegionLaw
import Derived.Laws.EntriesVeiled
import Derived.Laws.ResultCell
import Derived.Outline
set_option linter.unusedSimpArgs false
set_option linter.unusedVariables false
namespace Go.Proofs.YtkmfdiboekoioaaGreat
open Go.RowKit
theorem bdrew {B : Nat} {a w : World} (h : Below B a w) {n : Nat} : Below B a (w.drewN n) := ⟨h.os, h.tape, h.output, h.size, h.block⟩
theorem rget {α : Type} {l : List α} {k : Nat} (h : k < l.length) : ∃ x, l[k]? = some x := ⟨l[k], List.getElem?_eq_getElem h⟩

set_option maxHeartbeats 1000000 in
theorem has16_any (w : World) (v : Value) (l : List Int) (n : Int) (hl : IntsV w w.heap.size v l) : Calls Tryz.prog 60 #[v, .int .i64 n] w (fun e w' => e = .returned (.bool (decide (n ∈ l))) ∧ w' = w) := by
 have HL := Lib.hid hl
 obtain ⟨A, c, rfl, _, hlim, _⟩ := hl
 have hlim2 : l.length ≤ 17592186044416 := by unfold lim at hlim; omega
 clear hlim
 go_enter Tryz.func60, Tryz.ntmps60
 go_wp2_with fail
 go_loopw [5] (fun i wr => ∃ k : Nat, k ≤ l.length ∧ i = .int .i64 k ∧ wr = w ∧ Hid (∀ j x, j < k → l[j]? = some x → x = n → False)) (fun i _ => l.length - (intOf i).toNat)
 case atStart => exact ⟨0, Nat.zero_le _, rfl, by trivial, Lib.hid (fun j x h => by omega)⟩
 case round =>
  obtain ⟨k, hk, rfl, hw', HN⟩ := hrel
  subst hw'
  by_cases hlt : k < l.length
  ·obtain ⟨b, off, rfl, _, hp⟩ := HL.out.cells hlt
   obtain ⟨x, hx⟩ := rget hlt
   have c0 := hp k x hx
   have HX := Lib.hid hx
   clear hp hx
   by_cases hxn : x = n
   ·have HE := Lib.hid hxn
    have e1 : (x == n) = true := by simp [hxn]
    have e2 : decide (x = n) = true := by simp [hxn]
    clear hxn
    go_wp2_with fail
    go_ret
    have e : decide (n ∈ l) = true := by rw [decide_eq_true_eq, ← HE.out]; exact List.mem_of_getElem? HX.out
    rw [e]
    exact ⟨rfl, by trivial⟩
   ·have HE := Lib.hid hxn
    have e1 : (x == n) = false := by simp [hxn]
    have e2 : decide (x = n) = false := by simp [hxn]
    clear hxn
    go_wp2_with fail
    go_roundw
    case rel => exact ⟨k + 1, by omega, by go_num, by trivial, Lib.hid (fun j y hj hy he => by
     rcases Nat.lt_or_ge j k with h | h
     ·exact HN.out j y h hy he
     ·obtain rfl : j = k := by omega
      rw [HX.out] at hy; injection hy with hy
      exact HE.out (hy.trans he))⟩
    case measure => simp [intOf]; omega
  ·go_wp2_with fail
   go_ret
   have e : decide (n ∈ l) = false := by
    rw [decide_eq_false_iff_not]
    intro h
    obtain ⟨j, hj⟩ := List.mem_iff_getElem?.1 h
    have : j < l.length := by
     rcases Nat.lt_or_ge j l.length with q | q
     ·exact q
     ·rw [List.getElem?_eq_none q] at hj; cases hj
    exact HN.out j n (by omega) hj rfl
   rw [e]
   exact ⟨rfl, by trivial⟩

set_option maxHeartbeats 1000000 in
theorem has21_any (w : World) (v : Value) (l : List Int) (n : Int) (hl : IntsV w w.heap.size v l) : Calls Tryz.prog 149 #[v, .int .i64 n] w (fun e w' => e = .returned (.bool (decide (n ∈ l))) ∧ w' = w) := by
 have HL := Lib.hid hl
 obtain ⟨A, c, rfl, _, hlim, _⟩ := hl
 have hlim2 : l.length ≤ 17592186044416 := by unfold lim at hlim; omega
 clear hlim
 go_enter Tryz.func149, Tryz.ntmps149
 go_wp2_with fail
 go_loopw [5] (fun i wr => ∃ k : Nat, k ≤ l.length ∧ i = .int .i64 k ∧ wr = w ∧ Hid (∀ j x, j < k → l[j]? = some x → x = n → False)) (fun i _ => l.length - (intOf i).toNat)
 case atStart => exact ⟨0, Nat.zero_le _, rfl, by trivial, Lib.hid (fun j x h => by omega)⟩
 case round =>
  obtain ⟨k, hk, rfl, hw', HN⟩ := hrel
  subst hw'
  by_cases hlt : k < l.length
  ·obtain ⟨b, off, rfl, _, hp⟩ := HL.out.cells hlt
   obtain ⟨x, hx⟩ := rget hlt
   have c0 := hp k x hx
   have HX := Lib.hid hx
   clear hp hx
   by_cases hxn : x = n
   ·have HE := Lib.hid hxn
    have e1 : (x == n) = true := by simp [hxn]
    have e2 : decide (x = n) = true := by simp [hxn]
    clear hxn
    go_wp2_with fail
    go_ret
    have e : decide (n ∈ l) = true := by rw [decide_eq_true_eq, ← HE.out]; exact List.mem_of_getElem? HX.out
    rw [e]
    exact ⟨rfl, by trivial⟩
   ·have HE := Lib.hid hxn
    have e1 : (x == n) = false := by simp [hxn]
    have e2 : decide (x = n) = false := by simp [hxn]
    clear hxn
    go_wp2_with fail
    go_roundw
    case rel => exact ⟨k + 1, by omega, by go_num, by trivial, Lib.hid (fun j y hj hy he => by
     rcases Nat.lt_or_ge j k with h | h
     ·exact HN.out j y h hy he
     ·obtain rfl : j = k := by omega
      rw [HX.out] at hy; injection hy with hy
      exact HE.out (hy.trans he))⟩
    case measure => simp [intOf]; omega
  ·go_wp2_with fail
   go_ret
   have e : decide (n ∈ l) = false := by
    rw [decide_eq_false_iff_not]
    intro h
    obtain ⟨j, hj⟩ := List.mem_iff_getElem?.1 h
    have : j < l.length := by
     rcases Nat.lt_or_ge j l.length with q | q
     ·exact q
     ·rw [List.getElem?_eq_none q] at hj; cases hj
    exact HN.out j n (by omega) hj rfl
   rw [e]
   exact ⟨rfl, by trivial⟩
end Go.Proofs.YtkmfdiboekoioaaGreat

/- The tables of the references 12 and 14: which instruction of registers a node is; how many args it takes. No condition. -/
namespace Go.Proofs.YtkmfdiboekoioaaGreat
open Go.RowKit
/-- The instruction of registers of a node's operation. -/
def reg12 (k : Int) : Int := if k = 3 then 1 else if k = 4 then 2 else if k = 5 then 4 else if k = 6 then 5 else if k = 7 then 6 else if k = 8 then 7 else if k = 9 then 8 else if k = 10 then 9 else if k = 15 then 14 else if k = 11 then 10 else if k = 12 then 11 else if k = 13 then 12 else if k = 14 then 13 else if k = 16 then 15 else if k = 17 then 19 else if k = 18 then 20 else if k = 19 then 21 else if k = 20 then 22 else if k = 21 then 23 else if k = 22 then 24 else if k = 23 then 27 else 0
/-- What an instruction of registers takes. -/
structure RRow where
 to_ : Bool
 even : Bool
 exit : Bool
 args : Int
 ok : Bool
def row14 (k : Int) : RRow := if k = 1 then ⟨true, false, true, 0, true⟩ else if k = 2 ∨ k = 7 then ⟨true, false, false, 0, true⟩ else if k = 3 then ⟨true, false, false, 1, true⟩ else if k = 4 ∨ k = 5 ∨ k = 10 ∨ k = 11 ∨ k = 12 ∨ k = 13 then ⟨true, false, true, 1, true⟩ else if k = 9 ∨ k = 14 ∨ k = 21 then ⟨true, false, true, 2, true⟩ else if k = 6 then ⟨false, false, true, 2, true⟩ else if k = 25 then ⟨false, false, false, 1, true⟩ else if k = 8 ∨ k = 15 ∨ k = 17 ∨ k = 26 ∨ k = 27 then ⟨false, false, true, 1, true⟩ else if k = 16 then ⟨false, false, false, 0, true⟩ else if k = 18 then ⟨false, false, true, 0, true⟩ else if k = 19 ∨ k = 23 ∨ k = 24 then ⟨true, false, true, (-1), true⟩ else if k = 20 then ⟨true, true, true, (-1), true⟩ else if k = 22 then ⟨false, false, true, 3, true⟩ else ⟨false, false, false, 0, false⟩
set_option maxHeartbeats 4000000 in
theorem ref12Reg_any (w : World) (k : Int) : Calls Tryz.prog 62 #[.int .u8 k] w (fun e w' => e = .returned (.int .u8 (reg12 k)) ∧ w' = w) := by
  go_enter Tryz.func62, Tryz.ntmps62
  go_wp2_with fail
  all_goals go_ret
  all_goals refine ⟨?_, by trivial⟩
  all_goals simp only [beq_iff_eq, beq_eq_false_iff_ne, ne_eq] at *
  all_goals first
    | (subst k; rfl)
    | (unfold reg12; repeat rw [if_neg (by assumption)]
       rfl)
set_option maxHeartbeats 4000000 in
theorem ref14rows_any (w : World) (k : Int) : Calls Tryz.prog 113 #[.int .u8 k] w (fun e w' => e = .returned (.agg #[.bool (row14 k).to_, .bool (row14 k).even, .bool (row14 k).exit, .int .i64 (row14 k).args, .bool (row14 k).ok]) ∧ Below w.heap.size w w') := by
 go_enter Tryz.func113, Tryz.ntmps113
 go_wp2_with fail
 all_goals simp only [beq_iff_eq, beq_eq_false_iff_ne, ne_eq] at *
 all_goals obtain ⟨R, hR⟩ : ∃ R, R = row14 k := ⟨_, rfl⟩
 all_goals rw [← hR]
 all_goals first
  | (have hE : row14 k = row14 k := rfl; subst k; simp only [row14, reduceIte, Int.reduceEq, or_true, true_or, false_or, or_false] at hR; subst hR)
  | (simp only [row14, *, reduceIte, or_self] at hR; subst hR)
 all_goals have hfr : Tryz.f113.results = #[.cell 2 174] := rfl
 all_goals refine bodyPost_ret (v := _) (by simp only [results, hfr]; go_simp; rfl) rfl ?_
 all_goals exact ⟨rfl, (Below.refl _ _).alloc (Nat.le_refl _) _⟩
end Go.Proofs.YtkmfdiboekoioaaGreat

/- May a number and a kind be, as the reference 14 says: its parts. Conditions: a function that lies in memory. -/
namespace Go.Proofs.YtkmfdiboekoioaaGreat
open Go.RowKit
def value14 (k n : Int) : Bool := (k == 2) || (((n == 0) && ((k == 0) || (k == 1))) || ((n == 1) && (k == 1)))
set_option maxHeartbeats 4000000 in
theorem ref14Value_any (w : World) (k n : Int) : Calls Tryz.prog 142 #[.int .u8 k, .int .i64 n] w (fun e w' => e = .returned (.bool (value14 k n)) ∧ w' = w) := by
 rcases h1 : (k == 2) with _ | _ <;> rcases h2 : (n == 0) with _ | _ <;> rcases h3 : (k == 0) with _ | _ <;> rcases h4 : (k == 1) with _ | _ <;> rcases h5 : (n == 1) with _ | _
 all_goals
  have HV : Hid (value14 k n = ((k == 2) || (((n == 0) && ((k == 0) || (k == 1))) || ((n == 1) && (k == 1))))) := Lib.hid rfl
  rw [h1, h2, h3, h4, h5] at HV
  go_enter Tryz.func142, Tryz.ntmps142
  go_wp2_with go_quiet (fail)
  go_ret
  rw [HV.out]
  exact ⟨rfl, by trivial⟩
/-- A function's slices, their lengths. -/
theorem fn_shape {w : World} {B : Nat} {y : FVals} {x : FnP} (h : FnV w B y x) : ∃ A3 c3 A4 c4 A5 c5 A6 c6 A7 c7, y = ⟨.slice A3 x.caps.length c3, .slice A4 x.consts.length c4, .slice A5 x.code.length c5, .slice A6 x.lines.length c6, .slice A7 x.handlers.length c7⟩ ∧
  x.caps.length ≤ 17592186044416 ∧ x.consts.length ≤ 17592186044416 ∧ x.code.length ≤ 17592186044416 ∧ x.lines.length ≤ 17592186044416 ∧ x.handlers.length ≤ 17592186044416 := by
 obtain ⟨_, ⟨A3, c3, e3, _, l3, _⟩, ⟨A4, c4, e4, _, l4, _⟩, ⟨A5, c5, e5, _, l5, _⟩, ⟨A6, c6, e6, _, l6, _⟩, ⟨A7, c7, e7, _, l7, _⟩⟩ := h
 obtain ⟨y3, y4, y5, y6, y7⟩ := y
 simp only at e3 e4 e5 e6 e7
 subst e3 e4 e5 e6 e7
 unfold lim at l3 l4 l5 l6 l7
 exact ⟨A3, c3, A4, c4, A5, c5, A6, c6, A7, c7, rfl, l3, l4, l5, l6, l7⟩
theorem fn_cells {w : World} {b o : Nat} {x : FnP} {y : FVals} (hc : ∀ k, k < 8 → w.cell? ⟨b, o + k, none⟩ = (fnCells x y)[k]?) :
  w.cell? ⟨b, o, none⟩ = some (.string x.name) ∧ w.cell? ⟨b, o + 1, none⟩ = some (.int .i64 x.params) ∧ w.cell? ⟨b, o + 2, none⟩ = some (.int .i64 x.locals) ∧ w.cell? ⟨b, o + 3, none⟩ = some y.c3 ∧ w.cell? ⟨b, o + 4, none⟩ = some y.c4 ∧
  w.cell? ⟨b, o + 5, none⟩ = some y.c5 ∧ w.cell? ⟨b, o + 6, none⟩ = some y.c6 ∧ w.cell? ⟨b, o + 7, none⟩ = some y.c7 :=
 ⟨hc 0 (by omega), hc 1 (by omega), hc 2 (by omega), hc 3 (by omega), hc 4 (by omega), hc 5 (by omega), hc 6 (by omega), hc 7 (by omega)⟩

set_option maxHeartbeats 4000000 in
theorem ref14Named_any (w : World) (x : FnP) (y : FVals) (n : Int) (hf : FnV w w.heap.size y x) : Calls Tryz.prog 143 #[fval x y, .int .i64 n] w (fun e w' => (∃ t : Bool, e = .returned (.bool t) ∧ (t = true → ∃ i ∈ x.code, i.op = 26 ∧ i.a = n)) ∧ Below w.heap.size w w') := by
 have HF := Lib.hid hf
 obtain ⟨y3, y4, y5, y6, y7⟩ := y
 obtain ⟨_, _, _, ⟨A5, c5, e5, _, hl5, _⟩, _, _⟩ := hf
 simp only at e5
 subst e5
 have hl : x.code.length ≤ 17592186044416 := by unfold lim at hl5; omega
 clear hl5
 obtain ⟨w1, hw1⟩ : ∃ w1, w1 = w.alloc (.cells #[.string x.name, .int .i64 x.params, .int .i64 x.locals, y3, y4, .slice A5 x.code.length c5, y6, y7] 56) := ⟨_, rfl⟩
 have hb1 : Below w.heap.size w w1 := by rw [hw1]; exact (Below.refl _ _).alloc (Nat.le_refl _) _
 have HX : Hid (Blk w1 w.heap.size 56 #[.string x.name, .int .i64 x.params, .int .i64 x.locals, y3, y4, .slice A5 x.code.length c5, y6, y7]) := Lib.hid (by rw [hw1]; exact Blk.new _ _ _)
 have HC := Lib.hid (HF.out.later hb1 (Nat.le_refl _)).code
 have HB1 := Lib.hid hb1
 have x5 := HX.out.cell 5
 have xl := HX.out.lt
 clear hb1
 unfold fval fnCells
 go_enter Tryz.func143, Tryz.ntmps143
 go_upto_region 1 with fail
 rw [← hw1]
 clear hw1
 go_wp2_with fail
 go_loopw [5] (fun i wr => ∃ k : Nat, k ≤ x.code.length ∧ i = .int .i64 k ∧ wr = w1) (fun i _ => x.code.length - (intOf i).toNat)
 case atStart => exact ⟨0, Nat.zero_le _, rfl, by trivial⟩
 case round =>
  obtain ⟨k, hk, rfl, hw'⟩ := hrel
  subst hw'
  by_cases hlt : k < x.code.length
  ·obtain ⟨A, c, e, _, _, hp⟩ := HC.out
   injection e with e1 e2 e3
   obtain ⟨b, off, e4, hbB, hp⟩ := hp (by omega)
   rw [← e1] at e4
   subst e4
   obtain ⟨i, hi⟩ := rget hlt
   obtain ⟨f0, f1, _⟩ := hp k i hi
   have HI := Lib.hid hi
   clear hp hi e1 e2 e3
   rcases ho : (i.op == 26) with _ | _
   ·go_wp2_with fail
    go_roundw
    case rel => exact ⟨k + 1, by omega, by go_num, by trivial⟩
    case measure => simp [intOf]; omega
   ·rcases ha : (i.a == n) with _ | _
    ·go_wp2_with fail
     go_roundw
     case rel => exact ⟨k + 1, by omega, by go_num, by trivial⟩
     case measure => simp [intOf]; omega
    ·have HO := Lib.hid ho; have HA := Lib.hid ha
     go_wp2_with fail
     go_ret
     exact ⟨⟨true, rfl, fun _ => ⟨i, List.mem_of_getElem? HI.out, by simpa using HO.out, by simpa using HA.out⟩⟩, HB1.out⟩
  ·go_wp2_with fail
   go_ret
   exact ⟨⟨false, rfl, fun h => by cases h⟩, HB1.out⟩
set_option maxHeartbeats 4000000 in
theorem ref14Free_any (w : World) (x : FnP) (y : FVals) (hf : FnV w w.heap.size y x) : Calls Tryz.prog 144 #[fval x y] w (fun e w' => (∃ t : Int, e = .returned (.int .i64 t)) ∧ Below w.heap.size w w') := by
 have HF := Lib.hid hf
 obtain ⟨y3, y4, y5, y6, y7⟩ := y
 obtain ⟨_, ⟨A5, c5, e5, _, hl5, _⟩, _, _, _, _⟩ := hf
 simp only at e5
 subst e5
 have hl : x.caps.length ≤ 17592186044416 := by unfold lim at hl5; omega
 clear hl5
 obtain ⟨w1, hw1⟩ : ∃ w1, w1 = w.alloc (.cells #[.string x.name, .int .i64 x.params, .int .i64 x.locals, .slice A5 x.caps.length c5, y4, y5, y6, y7] 56) := ⟨_, rfl⟩
 have hb1 : Below w.heap.size w w1 := by rw [hw1]; exact (Below.refl _ _).alloc (Nat.le_refl _) _
 have HX : Hid (Blk w1 w.heap.size 56 #[.string x.name, .int .i64 x.params, .int .i64 x.locals, .slice A5 x.caps.length c5, y4, y5, y6, y7]) := Lib.hid (by rw [hw1]; exact Blk.new _ _ _)
 have HC := Lib.hid (HF.out.later hb1 (Nat.le_refl _)).caps
 have HB1 := Lib.hid hb1
 have x5 := HX.out.cell 3
 have xl := HX.out.lt
 clear hb1
 unfold fval fnCells
 go_enter Tryz.func144, Tryz.ntmps144
 go_upto_region 1 with fail
 rw [← hw1]
 clear hw1
 go_wp2_with fail
 go_loopw [3, 4] (fun t i wr => ∃ (k m : Nat), k ≤ x.caps.length ∧ i = .int .i64 k ∧ t = .int .i64 m ∧ m ≤ k ∧ wr = w1) (fun _ i _ => x.caps.length - (intOf i).toNat)
 case atStart => exact ⟨0, 0, Nat.zero_le _, rfl, rfl, Nat.le_refl _, by trivial⟩
 case round =>
  obtain ⟨k, m, hk, rfl, rfl, hm, hw'⟩ := hrel
  subst hw'
  by_cases hlt : k < x.caps.length
  ·obtain ⟨A, c, e, _, _, hp⟩ := HC.out
   injection e with e1 e2 e3
   obtain ⟨b, off, e4, hbB, hp⟩ := hp (by omega)
   rw [← e1] at e4
   subst e4
   obtain ⟨i, hi⟩ := rget hlt
   obtain ⟨f0, f1⟩ := hp k i hi
   clear hp hi e1 e2 e3
   rcases ho : i.up with _ | _
   ·rw [ho] at f0
    go_wp2_with fail
    go_roundw
    case rel => exact ⟨k + 1, m + 1, by omega, by go_num, by go_num, by omega, by trivial⟩
    case measure => simp [intOf]; omega
   ·rw [ho] at f0
    go_wp2_with fail
    go_roundw
    case rel => exact ⟨k + 1, m, by omega, by go_num, by go_num, by omega, by trivial⟩
    case measure => simp [intOf]; omega
  ·go_wp2_with fail
   go_ret
   exact ⟨⟨_, rfl⟩, HB1.out⟩
end Go.Proofs.YtkmfdiboekoioaaGreat

/- May a number and a kind be, as the reference 14 says: some answer. Conditions: a program that lies in memory, a function of it, whose made functions are there. -/
namespace Go.Proofs.YtkmfdiboekoioaaGreat
open Go.RowKit
/-- Each function that is made is one of the program's. -/
def MadeIn (p : List FnP) (x : FnP) : Prop := ∀ i ∈ x.code, i.op = 26 → 0 ≤ i.a ∧ i.a < (p.length : Int)
def SomeBool (w : World) (e : Ending) (w' : World) : Prop := ∃ t : Bool, e = .returned (.bool t) ∧ Below w.heap.size w w'
theorem made_fn {w : World} {p : List FnP} {x : FnP} {b off c : Nat} {n : Int} (hm : MadeIn p x) (hp : ProgV w w.heap.size (.slice (some ⟨b, off, none⟩) p.length c) p) (h : ∃ i, i ∈ x.code ∧ i.op = 26 ∧ i.a = n) :
  ∃ (m : Nat) (x' : FnP) (A3 : Option Addr) (c3 : Nat) (A4 : Option Addr) (c4 : Nat) (A5 : Option Addr) (c5 : Nat) (A6 : Option Addr) (c6 : Nat) (A7 : Option Addr) (c7 : Nat), n = (m : Int) ∧ m < p.length ∧ Hid (FnV w w.heap.size ⟨.slice A3 x'.caps.length c3, .slice A4 x'.consts.length c4, .slice A5 x'.code.length c5, .slice A6 x'.lines.length c6, .slice A7 x'.handlers.length c7⟩ x') ∧
   w.cell? ⟨b, off + m * 8, none⟩ = some (.string x'.name) ∧ w.cell? ⟨b, off + m * 8 + 1, none⟩ = some (.int .i64 x'.params) ∧ w.cell? ⟨b, off + m * 8 + 2, none⟩ = some (.int .i64 x'.locals) ∧ w.cell? ⟨b, off + m * 8 + 3, none⟩ = some (.slice A3 x'.caps.length c3) ∧ w.cell? ⟨b, off + m * 8 + 4, none⟩ = some (.slice A4 x'.consts.length c4) ∧
   w.cell? ⟨b, off + m * 8 + 5, none⟩ = some (.slice A5 x'.code.length c5) ∧ w.cell? ⟨b, off + m * 8 + 6, none⟩ = some (.slice A6 x'.lines.length c6) ∧ w.cell? ⟨b, off + m * 8 + 7, none⟩ = some (.slice A7 x'.handlers.length c7) := by
 obtain ⟨i, hi, ho, ha⟩ := h
 obtain ⟨q1, q2⟩ := hm i hi ho
 rw [ha] at q1 q2
 obtain ⟨m, rfl⟩ : ∃ m : Nat, n = (m : Int) := ⟨n.toNat, by omega⟩
 have hlt : m < p.length := by omega
 obtain ⟨A, c0, e, _, _, hq⟩ := hp
 injection e with e1 _ _
 obtain ⟨b0, o0, e2, _, hq⟩ := hq (by omega)
 rw [← e1] at e2
 injection e2 with e2
 injection e2 with e3 e4
 subst e3 e4
 obtain ⟨x', hx'⟩ := rget hlt
 obtain ⟨y', hf, hc⟩ := hq m x' hx'
 obtain ⟨A3, c3, A4, c4, A5, c5, A6, c6, A7, c7, ey, _⟩ := fn_shape hf
 subst ey
 obtain ⟨g0, g1, g2, g3, g4, g5, g6, g7⟩ := fn_cells hc
 exact ⟨m, x', A3, c3, A4, c4, A5, c5, A6, c6, A7, c7, rfl, hlt, Lib.hid hf, g0, g1, g2, g3, g4, g5, g6, g7⟩
set_option maxRecDepth 100000 in
set_option maxHeartbeats 8000000 in
theorem ref14number_any (w : World) (v : Value) (p : List FnP) (fn : Nat) (x : FnP) (op n k args : Int) (hp : ProgV w w.heap.size v p) (hx : p[fn]? = some x) (hm : MadeIn p x) :
  Calls Tryz.prog 114 #[v, .int .i64 fn, .int .u8 op, .int .i64 n, .int .u8 k, .int .i64 args] w (SomeBool w) := by
 have HP := Lib.hid hp; have HM := Lib.hid hm; have HX := Lib.hid hx
 obtain ⟨A, c, rfl, _, hl, hq⟩ := hp
 have hfl : fn < p.length := by
  rcases Nat.lt_or_ge fn p.length with h | h
  ·exact h
  ·rw [List.getElem?_eq_none h] at hx; cases hx
 obtain ⟨b, off, rfl, hbB, hq⟩ := hq (by omega)
 have hpl : p.length ≤ 17592186044416 := by unfold lim at hl; omega
 obtain ⟨y, hf, hc⟩ := hq fn x hx
 have HF := Lib.hid hf
 obtain ⟨A3, c3, A4, c4, A5, c5, A6, c6, A7, c7, ey, hk3, hk4, hk5, hk6, hk7⟩ := fn_shape hf
 subst ey
 obtain ⟨g0, g1, g2, g3, g4, g5, g6, g7⟩ := fn_cells hc
 simp only at g3 g4 g5 g6 g7
 clear hl hq hc hm hx hf
 go_enter Tryz.func114, Tryz.ntmps114
 go_upto_region 2 with fail
 obtain ⟨w1, hw1⟩ : ∃ w1, w1 = w.alloc (.cells #[.string x.name, .int .i64 x.params, .int .i64 x.locals, .slice A3 x.caps.length c3, .slice A4 x.consts.length c4, .slice A5 x.code.length c5, .slice A6 x.lines.length c6, .slice A7 x.handlers.length c7] 56) := ⟨_, rfl⟩
 have hb1 : Below w.heap.size w w1 := by rw [hw1]; exact (Below.refl _ _).alloc (Nat.le_refl _) _
 have hxx : Blk w1 w.heap.size 56 #[.string x.name, .int .i64 x.params, .int .i64 x.locals, .slice A3 x.caps.length c3, .slice A4 x.consts.length c4, .slice A5 x.code.length c5, .slice A6 x.lines.length c6, .slice A7 x.handlers.length c7] := by rw [hw1]; exact Blk.new _ _ _
 have x0 := hxx.cell 0
 have x1 := hxx.cell 1
 have x2 := hxx.cell 2
 have x3 := hxx.cell 3
 have x4 := hxx.cell 4
 have x5 := hxx.cell 5
 have x6 := hxx.cell 6
 have x7 := hxx.cell 7
 have xl := hxx.lt
 have HF1 := Lib.hid (HF.out.later hb1 (Nat.le_refl _))
 have HP1 := Lib.hid (HP.out.later hb1 (Nat.le_refl _))
 have HB1 := Lib.hid hb1
 clear g0 g1 g2 g3 g4 g5 g6 g7 hb1 hxx
 rw [← hw1]
 clear hw1
 go_wp2_with first
  | (go_at_call 142; refine (ref14Value_any _ _ _).mono ?_; rintro e w9 ⟨rfl, rfl⟩)
  | (go_at_call 143; refine (ref14Named_any _ x _ _ HF1.out).mono ?_; rintro e w9 ⟨⟨t, rfl, ht⟩, hb9⟩; have HT := Lib.hid ht; have HB9 := Lib.hid hb9; have HP9 := Lib.hid (HP1.out.later hb9 (Nat.le_refl _)); clear ht hb9; cases t; rotate_left; obtain ⟨m, x', A3', c3', A4', c4', A5', c5', A6', c6', A7', c7', en, hm, HF9, g0', g1', g2', g3', g4', g5', g6', g7'⟩ := made_fn (off := off) (c := c) (b := b) HM.out HP9.out (HT.out rfl); subst en; rotate_left)
  | (go_at_call 144; refine (ref14Free_any _ x' _ HF9.out).mono ?_; rintro e w8 ⟨⟨N8, rfl⟩, hb8⟩; have HB8 := Lib.hid hb8; clear hb8)
  | fail
 all_goals first
  | (go_ret; exact ⟨_, rfl, HB1.out⟩)
  | (go_ret; exact ⟨_, rfl, HB1.out.trans (HB9.out.mono HB1.out.size)⟩)
  | (go_ret; exact ⟨_, rfl, (HB1.out.trans (HB9.out.mono HB1.out.size)).trans (HB8.out.mono (HB1.out.trans (HB9.out.mono HB1.out.size)).size)⟩)
  | skip
end Go.Proofs.YtkmfdiboekoioaaGreat

/- May a node's number of args be, as the reference 14 says. Condition: a number within reach. -/
namespace Go.Proofs.YtkmfdiboekoioaaGreat
open Go.RowKit
/-- May a node's number of args be; has it an exit. -/
def args14 (k n : Int) : Bool × Bool :=
 if (row14 k).ok = false then (false, false)
 else if 0 ≤ (row14 k).args then (n == (row14 k).args, (row14 k).exit)
 else (!((row14 k).even && (n.tmod 2 != 0)) && !(k == 24 && n == 0), (row14 k).exit)
set_option maxHeartbeats 4000000 in
theorem ref14Args_any (w : World) (k n : Int) : Calls Tryz.prog 63 #[.int .u8 k, .int .i64 n] w (fun e w' => e = .returned (.tuple #[.bool (args14 k n).1, .bool (args14 k n).2]) ∧ Below w.heap.size w w') := by
 obtain ⟨R, hR⟩ : ∃ R, R = row14 k := ⟨_, rfl⟩
 obtain ⟨to_, even, exit, args, ok⟩ := R
 have hr : row14 k = ⟨to_, even, exit, args, ok⟩ := hR.symm
 have HR := Lib.hid hr
 have hc : Hid (Calls Tryz.prog 113 #[.int .u8 k] w (fun e w' => e = .returned (.agg #[.bool to_, .bool even, .bool exit, .int .i64 args, .bool ok]) ∧ Below w.heap.size w w')) := Lib.hid (by have := ref14rows_any w k; rw [hr] at this; exact this)
 clear hR hr
 cases ok with
 | false =>
  go_enter Tryz.func63, Tryz.ntmps63
  go_wp2_with (go_at_call 113; refine hc.out.mono ?_; rintro e w1 ⟨rfl, hb1⟩)
  go_ret2
  refine ⟨?_, hb1.alloc hb1.size _⟩
  simp [args14, HR.out]
 | true =>
  by_cases ha : 0 ≤ args
  ·have e1 : decide (0 ≤ args) = true := by simp [ha]
   have HA := Lib.hid ha
   clear ha
   go_enter Tryz.func63, Tryz.ntmps63
   go_wp2_with first | (go_at_call 113; refine hc.out.mono ?_; rintro e w1 ⟨rfl, hb1⟩) | go_quiet (fail)
   go_ret2
   refine ⟨?_, bdrew (hb1.alloc hb1.size _)⟩
   simp [args14, HR.out, HA.out]
  ·have e1 : decide (0 ≤ args) = false := by simp [ha]
   have HA := Lib.hid ha
   clear ha
   go_enter Tryz.func63, Tryz.ntmps63
   cases even with
   | false =>
    rcases hk : (k == 24) with _ | _
    ·go_wp2_with first | (go_at_call 113; refine hc.out.mono ?_; rintro e w1 ⟨rfl, hb1⟩) | go_quiet (fail)
     go_ret2
     refine ⟨?_, bdrew (hb1.alloc hb1.size _)⟩
     simp [args14, HR.out, Int.not_le.2 HA.out, hk]
    ·go_wp2_with first | (go_at_call 113; refine hc.out.mono ?_; rintro e w1 ⟨rfl, hb1⟩) | go_quiet (fail)
     go_ret2
     refine ⟨?_, bdrew (hb1.alloc hb1.size _)⟩
     simp [args14, HR.out, Int.not_le.2 HA.out, hk]
   | true =>
    rcases hk : (k == 24) with _ | _ <;> rcases hr : (n.tmod 2 != 0) with _ | _
    all_goals
     go_wp2_with first | (go_at_call 113; refine hc.out.mono ?_; rintro e w1 ⟨rfl, hb1⟩) | go_quiet (fail)
    all_goals go_outline
    all_goals
     go_ret2
     refine ⟨?_, bdrew (hb1.alloc hb1.size _)⟩
     simp [args14, HR.out, Int.not_le.2 HA.out, hk, hr]
end Go.Proofs.YtkmfdiboekoioaaGreat
