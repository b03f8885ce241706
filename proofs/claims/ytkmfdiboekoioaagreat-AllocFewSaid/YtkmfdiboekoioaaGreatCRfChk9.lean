/- The reference 9's look at a program: OK only if each function's head and code may be. Conditions: a program that lies in memory. -/
import Derived.Test.YtkmfdiboekoioaaGreatCRfDep2
import Derived.Test.YtkmfdiboekoioaaGreatCRfStates
import Derived.Test.YtkmfdiboekoioaaGreatCRfPlaces
import Derived.Test.YtkmfdiboekoioaaGreatCRfLess
import Derived.Test.YtkmfdiboekoioaaGreatCRfEnd
import Derived.Test.YtkmfdiboekoioaaGreatCRfStands
import Derived.Test.YtkmfdiboekoioaaGreatCRfMost
import Derived.Test.YtkmfdiboekoioaaGreatCRfBk
import Derived.Test.YtkmfdiboekoioaaGreatCRfGrow
set_option linter.unusedSimpArgs false
set_option linter.unusedVariables false
namespace Go.Proofs.YtkmfdiboekoioaaGreat
open Go.RowKit
theorem prog_fn {w : World} {B b off c : Nat} {p : List FnP} {j : Nat} {x : FnP} (hp : ProgV w B (.slice (some ⟨b, off, none⟩) p.length c) p) (hx : p[j]? = some x) :
  ∃ (A3 : Option Addr) (c3 : Nat) (A4 : Option Addr) (c4 : Nat) (A5 : Option Addr) (c5 : Nat) (A6 : Option Addr) (c6 : Nat) (A7 : Option Addr) (c7 : Nat), FnV w B ⟨.slice A3 x.caps.length c3, .slice A4 x.consts.length c4, .slice A5 x.code.length c5, .slice A6 x.lines.length c6, .slice A7 x.handlers.length c7⟩ x ∧
   w.cell? ⟨b, off + j * 8, none⟩ = some (.string x.name) ∧ w.cell? ⟨b, off + j * 8 + 1, none⟩ = some (.int .i64 x.params) ∧ w.cell? ⟨b, off + j * 8 + 2, none⟩ = some (.int .i64 x.locals) ∧ w.cell? ⟨b, off + j * 8 + 3, none⟩ = some (.slice A3 x.caps.length c3) ∧ w.cell? ⟨b, off + j * 8 + 4, none⟩ = some (.slice A4 x.consts.length c4) ∧
   w.cell? ⟨b, off + j * 8 + 5, none⟩ = some (.slice A5 x.code.length c5) ∧ w.cell? ⟨b, off + j * 8 + 6, none⟩ = some (.slice A6 x.lines.length c6) ∧ w.cell? ⟨b, off + j * 8 + 7, none⟩ = some (.slice A7 x.handlers.length c7) := by
 obtain ⟨A, c', e, _, _, h⟩ := hp
 injection e with e1 e2 e3
 obtain ⟨b', o', e4, hb, h⟩ := h (by have := (List.getElem?_eq_some_iff.1 hx).1; omega)
 rw [← e1] at e4
 injection e4 with e4
 injection e4 with e4 e5
 subst e4 e5
 obtain ⟨y, hf, hc⟩ := h j x hx
 obtain ⟨A3, c3, A4, c4, A5, c5, A6, c6, A7, c7, ey, _⟩ := fn_shape hf
 subst ey
 obtain ⟨u0, u1, u2, u3, u4, u5, u6, u7⟩ := fn_cells hc
 exact ⟨A3, c3, A4, c4, A5, c5, A6, c6, A7, c7, hf, u0, u1, u2, u3, u4, u5, u6, u7⟩
def Chk09 (p : List FnP) (w : World) (e : Ending) (w' : World) : Prop :=
 ∃ a b z : Int, e = .returned (.tuple #[.int .i64 a, .int .i64 b, .int .i64 z]) ∧ (z = 0 → ∀ (j : Nat) x, p[j]? = some x → HeadF x ∧ CodeF p.length x) ∧ Below w.heap.size w w'
set_option maxRecDepth 100000 in
set_option maxHeartbeats 16000000 in
theorem ref09Check_any (w : World) (v : Value) (p : List FnP) (hp : ProgV w w.heap.size v p) : Calls Tryz.prog 17 #[v] w (Chk09 p w) := by
 have HP := Lib.hid hp
 obtain ⟨A, c, rfl, _, hl, hq⟩ := hp
 have hpl : p.length ≤ 17592186044416 := by unfold lim at hl; omega
 clear hl
 by_cases h0 : p.length = 0
 ·clear hq
  have e0 : ((p.length : Int) == 0) = true := by simp [h0]
  clear h0
  go_enter Tryz.func17, Tryz.ntmps17
  go_wp2_with fail
  refine bodyPost_ret (results_tmp3 rfl _ _ _) rfl ?_
  exact ⟨_, _, _, rfl, fun h => absurd h (by decide), Below.refl _ _⟩
 ·obtain ⟨b, off, rfl, _, _⟩ := hq (by omega)
  clear hq
  have e0 : ((p.length : Int) == 0) = false := by rw [beq_eq_false_iff_ne]; omega
  rcases e1 : decide (256 < p.length) with _ | _
  rotate_left
  ·have e2 : decide ((256 : Int) < (p.length : Int)) = true := decide_eq_true (by have := of_decide_eq_true e1; omega)
   go_enter Tryz.func17, Tryz.ntmps17
   go_wp2_with fail
   refine bodyPost_ret (results_tmp3 rfl _ _ _) rfl ?_
   exact ⟨_, _, _, rfl, fun h => absurd h (by decide), Below.refl _ _⟩
  ·have e2 : decide ((256 : Int) < (p.length : Int)) = false := decide_eq_false (by have := of_decide_eq_false e1; omega)
   obtain ⟨i0, hi, hz0, hz1, hz2⟩ := info_parts int_info
   have hpos : 0 < p.length := by omega
   clear h0
   go_enter Tryz.func17, Tryz.ntmps17
   go_wp2_with fail
   go_loopw [5, 6] (fun mv' t wr => ∃ (k : Nat) (mv : Value), mv' = mv ∧ k ≤ p.length ∧ t = .int .i64 k ∧ Hid (OwnInts wr w.heap.size mv (List.replicate k (-1))) ∧ Hid (Below w.heap.size w wr)) (fun _ t _ => p.length - (intOf t).toNat)
   case atStart => exact ⟨0, _, rfl, Nat.zero_le _, rfl, Lib.hid (by simpa using OwnInts.nil _ _), Lib.hid (Below.refl _ _)⟩
   case round =>
    obtain ⟨k, mv, hm1, hk, rfl, HOw, HB⟩ := hrel
    have hm2 := hm1.symm; subst hm2; clear hm1
    obtain ⟨wq, rfl⟩ : ∃ wq : World, wq = wr := ⟨_, rfl⟩
    have hbs := HB.out.size
    by_cases hlt : k < p.length
    ·go_wp2_with (at_builtin; refine wpList_append_own_at _ rfl (.tmp 24) (.tmp 25) 34 rfl w.heap.size 3 i0 (.int .i64 0) 1 8 Tryz.underlying34 hi hz0 hz1 hz2 rfl (by decide) _ _ _ rfl (World.ownsRow.alloc HOw.out _) ⟨wq.heap.size, 0, none⟩ 1 1 [.int .i64 (-1)] rfl rfl (cell_one_new _ _ _) (ints_oneCell .i64 [-1]) (by rw [List.length_replicate]; unfold maxLen; omega) (by rw [List.length_replicate]; omega) (by simp; omega) ?_; intro v5 w5 hown5 hg5 _ _; have HO5 := Lib.hid (OwnInts.snoc hown5); have HB5 := Lib.hid ((HB.out.alloc hbs (.cells #[.int .i64 (-1)] 3)).grown hg5 (by simp; omega) (fun q e => (World.ownsRow.lt HOw.out q e).1)); clear hown5 hg5)
     go_roundw
     case rel => exact ⟨k + 1, _, rfl, by omega, by go_num, Lib.hid (by rw [List.replicate_succ']; exact HO5.out), HB5⟩
     case measure => simp [intOf]; omega
    ·have e : k = p.length := by omega
     subst e
     obtain ⟨mb, cap, em⟩ : ∃ mb cap, mv = .slice (some ⟨mb, 0, none⟩) p.length cap := by
      rcases HOw.out.2 with ⟨_, h0⟩ | ⟨g, cap, cur, e, _⟩
      ·rw [List.length_replicate] at h0; omega
      ·exact ⟨g, cap, by rw [e, List.length_replicate]⟩
     subst em
     have HMk0 : Hid (∃ ml : List Int, ml.length = p.length ∧ OwnInts wq w.heap.size (.slice (some ⟨mb, 0, none⟩) p.length cap) ml) := Lib.hid ⟨_, by simp, HOw.out⟩
     have HMb : Hid (w.heap.size ≤ mb) := Lib.hid (World.ownsRow.lt HOw.out mb rfl).1
     go_upto_region 9 with fail
     go_loopw [7] (fun t wr => ∃ (i : Nat), i ≤ p.length ∧ t = .int .i64 i ∧ Hid (∃ ml : List Int, ml.length = p.length ∧ OwnInts wr w.heap.size (.slice (some ⟨mb, 0, none⟩) p.length cap) ml) ∧ Hid (Below w.heap.size w wr) ∧ Hid (∀ (j : Nat) x, j < i → p[j]? = some x → HeadF x ∧ CodeF p.length x)) (fun t _ => p.length - (intOf t).toNat)
     case atStart => exact ⟨0, Nat.zero_le _, rfl, HMk0, HB, Lib.hid (fun j x h => by omega)⟩
     case round =>
      clear HMk0 HB HOw
      obtain ⟨i, hi', rfl, HMk, HB, HAll⟩ := hrel
      obtain ⟨ws, rfl⟩ : ∃ ws : World, ws = wr := ⟨_, rfl⟩
      by_cases hlt : i < p.length
      ·obtain ⟨x, hx⟩ := rget hlt
       have HX := Lib.hid hx
       have hps := HP.out.keep (Same.of_below HB.out)
       obtain ⟨A3, c3, A4, c4, A5, c5, A6, c6, A7, c7, hf, u0, u1, u2, u3, u4, u5, u6, u7⟩ := prog_fn hps hx
       have HF := Lib.hid hf
       have hbs := HB.out.size
       have HHd := Lib.hid (ref09head_any ws x ⟨.slice A3 x.caps.length c3, .slice A4 x.consts.length c4, .slice A5 x.code.length c5, .slice A6 x.lines.length c6, .slice A7 x.handlers.length c7⟩ ((i : Int) == 0) (hf.mono hbs))
       unfold fval fnCells at HHd
       clear hx hf hps
       go_upto_region 12 with (go_at_call 57; (with_reducible refine Calls.mono HHd.out ?_); rintro e w4 ⟨⟨t4, rfl, ht4⟩, hb4⟩; have HT4 := Lib.hid ht4; have HB4 := Lib.hid hb4; clear ht4 hb4; cases t4)
       ·clear u0 u1 u2 u3 u4 u5 u6 u7
        go_wp2_with fail
        refine bodyPost_ret (results_tmp3 rfl _ _ _) rfl ?_
        exact ⟨_, _, _, rfl, fun h => absurd h (by decide), HB.out.trans (HB4.out.mono HB.out.size)⟩
       ·have HHead : Hid (HeadF x) := Lib.hid (HT4.out (by first | trivial | rfl))
        have HB' := Lib.hid (HB.out.trans (HB4.out.mono HB.out.size))
        obtain ⟨ml, hml, hmo⟩ := HMk.out
        have hmo4 : OwnInts w4 w.heap.size (.slice (some ⟨mb, 0, none⟩) p.length cap) ml := World.ownsRow.kept (row := none) hmo ⟨HB4.out.os, HB4.out.tape, HB4.out.output, HB4.out.size, fun k hk _ => HB4.out.block k hk⟩ (.inr (by simp [Value.ownBlock]))
        have HCd := Lib.hid (ref09code_any w4 w.heap.size w.heap.size (.slice (some ⟨b, off, none⟩) p.length c) p i x mb cap ml (HP.out.keep (Same.of_below HB'.out)) HX.out HB'.out.size HMb.out hmo4 hml)
        clear u0 u1 u2 u3 u4 u5 u6 u7 hmo hmo4 hml HT4
        go_upto_region 14 with (go_at_call 58; (with_reducible refine Calls.mono HCd.out ?_); rintro e w5 ⟨z5, rfl, hz5, hm5, hg5⟩; have HZ5 := Lib.hid hz5; have HMk5 := Lib.hid hm5; have HB5 : Hid (Below w.heap.size w w5) := Lib.hid (HB'.out.grown hg5 HB'.out.size (fun q e => by injection e with e; have := HMb.out; omega)); clear hz5 hm5 hg5)
        rcases d5 : decide (z5 < 0) with _ | _
        ·have d5' : decide (0 ≤ z5) = true := decide_eq_true (by have := of_decide_eq_false d5; omega)
         go_wp2_with fail
         refine bodyPost_ret (results_tmp3 rfl _ _ _) rfl ?_
         exact ⟨_, _, _, rfl, fun h => absurd h (by decide), HB5.out⟩
        ·have HCode : Hid (CodeF p.length x) := Lib.hid (HZ5.out (of_decide_eq_true d5))
         have hps := HP.out.keep (Same.of_below HB5.out)
         obtain ⟨A3', c3', A4', c4', A5', c5', A6', c6', A7', c7', hf5, u0, u1, u2, u3, u4, u5, u6, u7⟩ := prog_fn hps HX.out
         have HDp := Lib.hid (ref09depths_any w5 x ⟨.slice A3' x.caps.length c3', .slice A4' x.consts.length c4', .slice A5' x.code.length c5', .slice A6' x.lines.length c6', .slice A7' x.handlers.length c7'⟩ p.length (hf5.mono HB5.out.size) HHead.out HCode.out)
         unfold fval fnCells at HDp
         clear hps hf5
         go_upto_region 16 with (go_at_call 59; (with_reducible refine Calls.mono HDp.out ?_); rintro e w6 ⟨l6, v6, z6, rfl, _, hb6⟩; have HB6 := Lib.hid hb6; clear hb6)
         clear u0 u1 u2 u3 u4 u5 u6 u7 d5
         rcases d6 : decide (0 ≤ z6) with _ | _
         ·go_wp2_with fail
          go_roundw
          case rel => exact ⟨i + 1, by omega, by go_num, Lib.hid (by
            obtain ⟨m, hm, ho⟩ := HMk5.out
            exact ⟨m, hm, World.ownsRow.kept (row := none) ho ⟨HB6.out.os, HB6.out.tape, HB6.out.output, HB6.out.size, fun k hk _ => HB6.out.block k hk⟩ (.inr (by simp [Value.ownBlock]))⟩), Lib.hid (HB5.out.trans (HB6.out.mono HB5.out.size)), Lib.hid (fun j x' hj hx' => by
            rcases Nat.lt_or_ge j i with h | h
            ·exact HAll.out j x' h hx'
            ·obtain rfl : j = i := by omega
             rw [HX.out] at hx'; injection hx' with hx'; subst hx'
             exact ⟨HHead.out, HCode.out⟩)⟩
          case measure => simp [intOf]; omega
         ·go_wp2_with fail
          refine bodyPost_ret (results_tmp3 rfl _ _ _) rfl ?_
          exact ⟨_, _, _, rfl, fun h => absurd h (by decide), HB5.out.trans (HB6.out.mono HB5.out.size)⟩
      ·have e : i = p.length := by omega
       subst e
       go_upto_region 19 with fail
       obtain ⟨wf, hwf⟩ : ∃ wf, wf = ws := ⟨_, rfl⟩
       rw [← hwf] at HMk HB ⊢
       clear hwf
       go_loopw [9] (fun t wr => ∃ (k : Nat), k ≤ p.length ∧ t = .int .i64 k ∧ Hid (wr = wf)) (fun t _ => p.length - (intOf t).toNat)
       case atStart => exact ⟨0, Nat.zero_le _, rfl, Lib.hid rfl⟩
       case round =>
        obtain ⟨k, hk, rfl, hw'⟩ := hrel
        have hw2 := hw'.out
        subst hw2
        by_cases hlt : k < p.length
        ·obtain ⟨x, hx⟩ := rget hlt
         obtain ⟨A3, c3, A4, c4, A5, c5, A6, c6, A7, c7, hf, u0, u1, u2, u3, u4, u5, u6, u7⟩ := prog_fn (HP.out.keep (Same.of_below HB.out)) hx
         obtain ⟨ml, hml, hmo⟩ := HMk.out
         have hown : wr.ownsRow w.heap.size 3 1 (.slice (some ⟨mb, 0, none⟩) p.length cap) p.length (ml.map (Value.int .i64)) := by unfold OwnInts at hmo; rw [hml] at hmo; exact hmo
         obtain ⟨z, hz⟩ := rget (l := ml) (k := k) (by omega)
         have m0 : wr.cell? ⟨mb, k, none⟩ = some (.int .i64 z) := by rw [World.ownsRow.cellAt hown k (by omega), List.getElem?_map, hz]; rfl
         have mlt := (World.ownsRow.lt hown mb rfl).2
         clear hx hf hmo hown hz u0 u1 u2 u4 u5 u6 u7 hml
         rcases d1 : decide (0 < x.caps.length) with _ | _
         ·go_wp2_with fail
          go_roundw
          case rel => exact ⟨k + 1, by omega, by go_num, (by first | exact Lib.hid rfl | exact Lib.hid trivial)⟩
          case measure => simp [intOf]; omega
         ·rcases d2 : decide (z < 0) with _ | _
          ·go_wp2_with fail
           go_roundw
           case rel => exact ⟨k + 1, by omega, by go_num, (by first | exact Lib.hid rfl | exact Lib.hid trivial)⟩
           case measure => simp [intOf]; omega
          ·go_wp2_with fail
           refine bodyPost_ret (results_tmp3 rfl _ _ _) rfl ?_
           exact ⟨_, _, _, rfl, fun h => absurd h (by decide), HB.out⟩
        ·go_wp2_with fail
         refine bodyPost_ret (results_tmp3 rfl _ _ _) rfl ?_
         exact ⟨_, _, _, rfl, fun _ j x hx => HAll.out j x (List.getElem?_eq_some_iff.1 hx).1 hx, HB.out⟩
def Dps09 (w : World) (e : Ending) (w' : World) : Prop := ∃ (l : List Int) (v : Value) (z : Int), e = .returned (.tuple #[v, .int .i64 z]) ∧ IntsV w' w'.heap.size v l ∧ Below w.heap.size w w'
set_option maxRecDepth 100000 in
set_option maxHeartbeats 16000000 in
theorem ref09Depths_any (w : World) (v : Value) (p : List FnP) (fn : Int) (hp : ProgV w w.heap.size v p) : Calls Tryz.prog 18 #[v, .int .i64 fn] w (Dps09 w) := by
 have HP := Lib.hid hp
 have HCk := Lib.hid (ref09Check_any w v p hp)
 obtain ⟨A, c, rfl, _, hl, hq⟩ := hp
 have hpl : p.length ≤ 17592186044416 := by unfold lim at hl; omega
 clear hl
 go_enter Tryz.func18, Tryz.ntmps18
 go_upto_region 2 with (go_at_call 17; (with_reducible refine Calls.mono HCk.out ?_); rintro e w2 ⟨a2, b2, z2, rfl, hz2, hb2⟩; have HZ2 := Lib.hid hz2; have HB2 := Lib.hid hb2; clear hz2 hb2)
 rcases dz : (z2 != 0) with _ | _
 rotate_left
 ·go_wp2_with fail
  refine bodyPost_ret (results_tmp2 rfl _ _ _) rfl ?_
  exact ⟨[], _, _, rfl, IntsV.nil _ _, HB2.out⟩
 ·have HZ : Hid (z2 = 0) := Lib.hid (by simpa using dz)
  rcases d1 : decide (fn < 0) with _ | _
  rotate_left
  ·go_wp2_with fail
   refine bodyPost_ret (results_tmp2 rfl _ _ _) rfl ?_
   exact ⟨[], _, _, rfl, IntsV.nil _ _, HB2.out⟩
  ·rcases d2 : decide ((p.length : Int) ≤ fn) with _ | _
   rotate_left
   ·go_wp2_with fail
    refine bodyPost_ret (results_tmp2 rfl _ _ _) rfl ?_
    exact ⟨[], _, _, rfl, IntsV.nil _ _, HB2.out⟩
   ·obtain ⟨fk, rfl⟩ : ∃ m : Nat, fn = (m : Int) := ⟨fn.toNat, by have := of_decide_eq_false d1; omega⟩
    have hfl : fk < p.length := by have := of_decide_eq_false d2; omega
    obtain ⟨b, off, rfl, _, _⟩ := hq (by omega)
    clear hq
    obtain ⟨x, hx⟩ := rget hfl
    obtain ⟨A3, c3, A4, c4, A5, c5, A6, c6, A7, c7, hf, u0, u1, u2, u3, u4, u5, u6, u7⟩ := prog_fn (HP.out.keep (Same.of_below HB2.out)) hx
    obtain ⟨h1, h2⟩ := HZ2.out HZ.out fk x hx
    have HDp := Lib.hid (ref09depths_any w2 x ⟨.slice A3 x.caps.length c3, .slice A4 x.consts.length c4, .slice A5 x.code.length c5, .slice A6 x.lines.length c6, .slice A7 x.handlers.length c7⟩ p.length (hf.mono HB2.out.size) h1 h2)
    unfold fval fnCells at HDp
    clear hf hx h1 h2
    go_wp2_with (go_at_call 59; (with_reducible refine Calls.mono HDp.out ?_); rintro e w6 ⟨l6, v6, z6, rfl, hv6, hb6⟩; have HV6 := Lib.hid hv6; have HB6 := Lib.hid hb6; clear hv6 hb6)
    refine bodyPost_ret (results_tmp2 rfl _ _ _) rfl ?_
    exact ⟨l6, _, _, rfl, HV6.out, HB2.out.trans (HB6.out.mono HB2.out.size)⟩
end Go.Proofs.YtkmfdiboekoioaaGreat

/- The reference 16's look at a graph: its memory; the loops over ends and over the blocks ahead. Conditions: a small graph, a program that lie in memory. -/
namespace Go.Proofs.YtkmfdiboekoioaaGreat
open Go.RowKit
noncomputable def above_ (g : GraphP) : List (List Int) := (List.range g.blocks.length).map (fun b => aboveTo g b g.blocks.length)
/-- What is known of a graph that may be. -/
structure Ok16 (g : GraphP) (P : List (Nat × Nat)) : Prop where
 pos : 0 < g.blocks.length
 st : StF g
 pl : PlOk2 g P
 ends : ∀ (b : Nat) x, g.blocks[b]? = some x → EdF g x
 ahs : ∀ (b : Nat) x, g.blocks[b]? = some x → AhF g x b
 nds : ∀ (n : Nat) y, g.nodes[n]? = some y → ∃ x, g.blocks[(P.getD n (0, 0)).1]? = some x ∧ NdF g y (P.getD n (0, 0)).1 x (P.getD n (0, 0)).2
 use : ∀ (n : Nat) y, g.nodes[n]? = some y → y.op ≠ 2 → StandF P (above_ g) y.args (P.getD n (0, 0)).1 (P.getD n (0, 0)).2 ∧ StandF P (above_ g) (slotsOf g y.state) (P.getD n (0, 0)).1 (P.getD n (0, 0)).2
 phi : ∀ (n : Nat) y, g.nodes[n]? = some y → y.op = 2 → ∀ x, g.blocks[(P.getD n (0, 0)).1]? = some x → ∀ (k : Nat) a c, y.args[k]? = some a → x.ahead[k]? = some c → ∃ z, g.blocks[c.toNat]? = some z ∧ standsB P (above_ g) a.toNat c.toNat z.nodes.length = true
 fin : ∀ (b : Nat) x, g.blocks[b]? = some x → StandF P (above_ g) x.args b x.nodes.length ∧ StandF P (above_ g) (slotsOf g x.state) b x.nodes.length
def Chk16 (p : List FnP) (g : GraphP) (w : World) (e : Ending) (w' : World) : Prop := ∃ z : Int, e = .returned (.int .i64 z) ∧ (z = 0 → ∃ P, Ok16 g P) ∧ Below w.heap.size w w'
/-- The memory of Check. -/
structure K16 (w : World) (v : Value) (p : List FnP) (xv : GVals) (g : GraphP) (W : World) : Prop where
 gr : GCtx W w.heap.size w.heap.size xv g
 pr : ProgV W w.heap.size v p
 low : Below w.heap.size w W
theorem K16.below {w : World} {v : Value} {p : List FnP} {xv : GVals} {g : GraphP} {W W' : World} (h : K16 w v p xv g W) (hb : Below W.heap.size W W') : K16 w v p xv g W' :=
 ⟨h.gr.below hb, h.pr.keep (Same.of_below (hb.mono h.low.size)), h.low.trans (hb.mono h.low.size)⟩
noncomputable def cloop (k : Nat) : Code := ((Tryz.f7.body.map loopsO).getD []).getD k .skip
set_option maxRecDepth 100000 in
set_option maxHeartbeats 8000000 in
theorem cends_any (w : World) (v : Value) (p : List FnP) (g : GraphP) (An Ab As : Option Addr) (cn cb cs : Nat) (W0 : World) (hs : Small g) (M0 : K16 w v p ⟨.slice An g.nodes.length cn, .slice Ab g.blocks.length cb, .slice As g.states.length cs⟩ g W0)
  (u1 u2 u4 u5 u6 u7 u8 u9 u10 u11 u13 u14 u15 u16 u17 u18 u19 u20 u21 u22 u23 u24 u25 u26 u27 u28 u29 u30 u31 u32 u33 u34 u35 u36 u37 u38 u39 u40 u41 u42 u43 u44 u45 u46 u47 u48 u49 u50 u51 u52 u53 u54 u55 u56 u57 u58 u59 u60 u61 u62 u63 u64 u65 u66 u67 u68 u69 u70 u71 u72 u73 u74 u75 u76 u77 u78 u79 u80 u81 u82 u83 u84 u85 u86 u87 u88 u89 u90 u91 u92 u93 u94 u95 u96 u97 u98 u99 u100 u101 u102 u103 u104 u105 u106 u107 u108 u109 u110 u111 u112 u113 u114 u115 u116 u117 u118 u119 u120 u121 u122 u123 u124 u125 u126 u127 u128 u129 u130 u131 u132 u133 u134 u135 u136 u137 u138 u139 u140 u141 u142 u143 u144 u145 u146 u147 u148 u149 u150 u151 u152 u153 u154 u155 u156 u157 u158 u159 u160 u161 u162 u163 u164 u165 u166 u167 u168 u169 u170 u171 u172 u173 u174 u175 u176 u177 u178 u179 u180 u181 u182 u183 u184 u185 u186 u187 u188 u189 u190 u191 u192 u193 u194 u195 u196 u197 u198 u199 u200 u201 u202 u203 u204 u205 u206 u207 u208 u209 u210 u211 u212 u213 u214 u215 u216 u217 u218 u219 u220 u221 u222 u223 u224 u225 u226 u227 u228 u229 u230 u231 u232 u233 u234 u235 u236 u237 u238 u239 u240 u241 u242 u243 u244 u245 u246 u247 u248 u249 : Value) (Q : Exit → Act → World → Prop)
  (hret : ∀ (a : Act) (W : World), bodyPost Tryz.prog Tryz.f7 (Chk16 p g w) .ret a W → Q .ret a W)
  (hexit : ∀ (x4 x12 x107 x108 x109 x110 x111 x112 x113 x114 x115 x116 x117 : Value) (W' : World), (Below W0.heap.size W0 W' ∧ ∀ (b : Nat) x, g.blocks[b]? = some x → EdF g x) → Q (.exit 0) ⟨#[v, u1, u2, .pointer (some ⟨w.heap.size, 0, none⟩), x4, u5, u6, u7, u8, u9, u10, u11, x12, u13, u14, u15, u16, u17, u18, u19, u20, u21, u22, u23, u24, u25, u26, u27, u28, u29, u30, u31, u32, u33, u34, u35, u36, u37, u38, u39, u40, u41, u42, u43, u44, u45, u46, u47, u48, u49, u50, u51, u52, u53, u54, u55, u56, u57, u58, u59, u60, u61, u62, u63, u64, u65, u66, u67, u68, u69, u70, u71, u72, u73, u74, u75, u76, u77, u78, u79, u80, u81, u82, u83, u84, u85, u86, u87, u88, u89, u90, u91, u92, u93, u94, u95, u96, u97, u98, u99, u100, u101, u102, u103, u104, u105, u106, x107, x108, x109, x110, x111, x112, x113, x114, x115, x116, x117, u118, u119, u120, u121, u122, u123, u124, u125, u126, u127, u128, u129, u130, u131, u132, u133, u134, u135, u136, u137, u138, u139, u140, u141, u142, u143, u144, u145, u146, u147, u148, u149, u150, u151, u152, u153, u154, u155, u156, u157, u158, u159, u160, u161, u162, u163, u164, u165, u166, u167, u168, u169, u170, u171, u172, u173, u174, u175, u176, u177, u178, u179, u180, u181, u182, u183, u184, u185, u186, u187, u188, u189, u190, u191, u192, u193, u194, u195, u196, u197, u198, u199, u200, u201, u202, u203, u204, u205, u206, u207, u208, u209, u210, u211, u212, u213, u214, u215, u216, u217, u218, u219, u220, u221, u222, u223, u224, u225, u226, u227, u228, u229, u230, u231, u232, u233, u234, u235, u236, u237, u238, u239, u240, u241, u242, u243, u244, u245, u246, u247, u248, u249], []⟩ W') :
  Code.wp Tryz.prog (Code.loop (cloop 0)) Q ⟨#[v, u1, u2, .pointer (some ⟨w.heap.size, 0, none⟩), u4, u5, u6, u7, u8, u9, u10, u11, .int .i64 (0 : Int), u13, u14, u15, u16, u17, u18, u19, u20, u21, u22, u23, u24, u25, u26, u27, u28, u29, u30, u31, u32, u33, u34, u35, u36, u37, u38, u39, u40, u41, u42, u43, u44, u45, u46, u47, u48, u49, u50, u51, u52, u53, u54, u55, u56, u57, u58, u59, u60, u61, u62, u63, u64, u65, u66, u67, u68, u69, u70, u71, u72, u73, u74, u75, u76, u77, u78, u79, u80, u81, u82, u83, u84, u85, u86, u87, u88, u89, u90, u91, u92, u93, u94, u95, u96, u97, u98, u99, u100, u101, u102, u103, u104, u105, u106, u107, u108, u109, u110, u111, u112, u113, u114, u115, u116, u117, u118, u119, u120, u121, u122, u123, u124, u125, u126, u127, u128, u129, u130, u131, u132, u133, u134, u135, u136, u137, u138, u139, u140, u141, u142, u143, u144, u145, u146, u147, u148, u149, u150, u151, u152, u153, u154, u155, u156, u157, u158, u159, u160, u161, u162, u163, u164, u165, u166, u167, u168, u169, u170, u171, u172, u173, u174, u175, u176, u177, u178, u179, u180, u181, u182, u183, u184, u185, u186, u187, u188, u189, u190, u191, u192, u193, u194, u195, u196, u197, u198, u199, u200, u201, u202, u203, u204, u205, u206, u207, u208, u209, u210, u211, u212, u213, u214, u215, u216, u217, u218, u219, u220, u221, u222, u223, u224, u225, u226, u227, u228, u229, u230, u231, u232, u233, u234, u235, u236, u237, u238, u239, u240, u241, u242, u243, u244, u245, u246, u247, u248, u249], []⟩ W0 := by
 have HM0 := Lib.hid M0; have HEx := Lib.hid hexit; have HRet := Lib.hid hret
 obtain ⟨l1, l2, l3⟩ := hs.lens
 have ee : gval g ⟨.slice An g.nodes.length cn, .slice Ab g.blocks.length cb, .slice As g.states.length cs⟩ = .agg #[.int .i64 g.fn, .int .i64 g.pc, .int .i64 g.slots, .slice An g.nodes.length cn, .slice Ab g.blocks.length cb, .slice As g.states.length cs] := rfl
 have E0 := Lib.hid ee
 clear M0 hexit hret ee
 conv => arg 2; arg 1; whnf
 dsimp only
 go_loopw [12] (fun t wr => ∃ k : Nat, k ≤ g.blocks.length ∧ t = .int .i64 k ∧ Hid (Below W0.heap.size W0 wr) ∧ Hid (∀ (b : Nat) x, b < k → g.blocks[b]? = some x → EdF g x)) (fun t _ => g.blocks.length - (intOf t).toNat)
 case atStart => exact ⟨0, Nat.zero_le _, rfl, Lib.hid (Below.refl _ _), Lib.hid (fun b x h => by omega)⟩
 case round =>
  obtain ⟨k, hk, rfl, HB, HA⟩ := hrel
  obtain ⟨wq, rfl⟩ : ∃ wq : World, wq = wr := ⟨_, rfl⟩
  have HM := Lib.hid (HM0.out.below HB.out)
  obtain ⟨q0, q1, q2, q3, q4, q5⟩ := HM.out.gr.cells
  have ql := HM.out.gr.lt
  simp only at q3 q4 q5
  by_cases hlt : k < g.blocks.length
  ·obtain ⟨x, hx⟩ := getE hlt
   have HX := Lib.hid hx
   have hc := ref16end_any wq ⟨.slice An g.nodes.length cn, .slice Ab g.blocks.length cb, .slice As g.states.length cs⟩ g k x HM.out.gr.graph hx
   rw [E0.out] at hc
   have HC := Lib.hid hc
   clear hc hx
   go_wp2_with (go_at_call 22; (with_reducible refine Calls.mono HC.out ?_); rintro e w4 ⟨⟨t4, rfl, ht4⟩, hb4⟩; have HT4 := Lib.hid ht4; have HB4 := Lib.hid hb4; clear ht4 hb4; cases t4)
   ·refine HRet.out _ _ ?_
    go_ret
    exact ⟨8, rfl, fun h => absurd h (by decide), (HM.out.below HB4.out).low⟩
   ·go_roundw
    case rel => exact ⟨k + 1, by omega, by go_num, Lib.hid (HB.out.trans (HB4.out.mono HB.out.size)), Lib.hid (fun b x' hb hx' => by
     rcases Nat.lt_or_ge b k with h | h
     ·exact HA.out b x' h hx'
     ·obtain rfl : b = k := by omega
      rw [HX.out] at hx'; injection hx' with hx'; subst hx'
      exact HT4.out (by first | trivial | rfl))⟩
    case measure => simp [intOf]; omega
  ·go_wp2_with fail
   exact HEx.out _ _ _ _ _ _ _ _ _ _ _ _ _ _ ⟨HB.out, fun b x hx => HA.out b x (by have := (List.getElem?_eq_some_iff.1 hx).1; omega) hx⟩
set_option maxRecDepth 100000 in
set_option maxHeartbeats 8000000 in
theorem caheads_any (w : World) (v : Value) (p : List FnP) (g : GraphP) (An Ab As : Option Addr) (cn cb cs : Nat) (W0 : World) (hs : Small g) (M0 : K16 w v p ⟨.slice An g.nodes.length cn, .slice Ab g.blocks.length cb, .slice As g.states.length cs⟩ g W0)
  (u1 u2 u4 u5 u6 u7 u8 u9 u10 u11 u12 u14 u15 u16 u17 u18 u19 u20 u21 u22 u23 u24 u25 u26 u27 u28 u29 u30 u31 u32 u33 u34 u35 u36 u37 u38 u39 u40 u41 u42 u43 u44 u45 u46 u47 u48 u49 u50 u51 u52 u53 u54 u55 u56 u57 u58 u59 u60 u61 u62 u63 u64 u65 u66 u67 u68 u69 u70 u71 u72 u73 u74 u75 u76 u77 u78 u79 u80 u81 u82 u83 u84 u85 u86 u87 u88 u89 u90 u91 u92 u93 u94 u95 u96 u97 u98 u99 u100 u101 u102 u103 u104 u105 u106 u107 u108 u109 u110 u111 u112 u113 u114 u115 u116 u117 u118 u119 u120 u121 u122 u123 u124 u125 u126 u127 u128 u129 u130 u131 u132 u133 u134 u135 u136 u137 u138 u139 u140 u141 u142 u143 u144 u145 u146 u147 u148 u149 u150 u151 u152 u153 u154 u155 u156 u157 u158 u159 u160 u161 u162 u163 u164 u165 u166 u167 u168 u169 u170 u171 u172 u173 u174 u175 u176 u177 u178 u179 u180 u181 u182 u183 u184 u185 u186 u187 u188 u189 u190 u191 u192 u193 u194 u195 u196 u197 u198 u199 u200 u201 u202 u203 u204 u205 u206 u207 u208 u209 u210 u211 u212 u213 u214 u215 u216 u217 u218 u219 u220 u221 u222 u223 u224 u225 u226 u227 u228 u229 u230 u231 u232 u233 u234 u235 u236 u237 u238 u239 u240 u241 u242 u243 u244 u245 u246 u247 u248 u249 : Value) (Q : Exit → Act → World → Prop)
  (hret : ∀ (a : Act) (W : World), bodyPost Tryz.prog Tryz.f7 (Chk16 p g w) .ret a W → Q .ret a W)
  (hexit : ∀ (x4 x13 x118 x119 x120 x121 x122 x123 x124 x125 x126 x127 x128 : Value) (W' : World), (Below W0.heap.size W0 W' ∧ ∀ (b : Nat) x, g.blocks[b]? = some x → AhF g x b) → Q (.exit 2) ⟨#[v, u1, u2, .pointer (some ⟨w.heap.size, 0, none⟩), x4, u5, u6, u7, u8, u9, u10, u11, u12, x13, u14, u15, u16, u17, u18, u19, u20, u21, u22, u23, u24, u25, u26, u27, u28, u29, u30, u31, u32, u33, u34, u35, u36, u37, u38, u39, u40, u41, u42, u43, u44, u45, u46, u47, u48, u49, u50, u51, u52, u53, u54, u55, u56, u57, u58, u59, u60, u61, u62, u63, u64, u65, u66, u67, u68, u69, u70, u71, u72, u73, u74, u75, u76, u77, u78, u79, u80, u81, u82, u83, u84, u85, u86, u87, u88, u89, u90, u91, u92, u93, u94, u95, u96, u97, u98, u99, u100, u101, u102, u103, u104, u105, u106, u107, u108, u109, u110, u111, u112, u113, u114, u115, u116, u117, x118, x119, x120, x121, x122, x123, x124, x125, x126, x127, x128, u129, u130, u131, u132, u133, u134, u135, u136, u137, u138, u139, u140, u141, u142, u143, u144, u145, u146, u147, u148, u149, u150, u151, u152, u153, u154, u155, u156, u157, u158, u159, u160, u161, u162, u163, u164, u165, u166, u167, u168, u169, u170, u171, u172, u173, u174, u175, u176, u177, u178, u179, u180, u181, u182, u183, u184, u185, u186, u187, u188, u189, u190, u191, u192, u193, u194, u195, u196, u197, u198, u199, u200, u201, u202, u203, u204, u205, u206, u207, u208, u209, u210, u211, u212, u213, u214, u215, u216, u217, u218, u219, u220, u221, u222, u223, u224, u225, u226, u227, u228, u229, u230, u231, u232, u233, u234, u235, u236, u237, u238, u239, u240, u241, u242, u243, u244, u245, u246, u247, u248, u249], []⟩ W') :
  Code.wp Tryz.prog (Code.loop (cloop 1)) Q ⟨#[v, u1, u2, .pointer (some ⟨w.heap.size, 0, none⟩), u4, u5, u6, u7, u8, u9, u10, u11, u12, .int .i64 (0 : Int), u14, u15, u16, u17, u18, u19, u20, u21, u22, u23, u24, u25, u26, u27, u28, u29, u30, u31, u32, u33, u34, u35, u36, u37, u38, u39, u40, u41, u42, u43, u44, u45, u46, u47, u48, u49, u50, u51, u52, u53, u54, u55, u56, u57, u58, u59, u60, u61, u62, u63, u64, u65, u66, u67, u68, u69, u70, u71, u72, u73, u74, u75, u76, u77, u78, u79, u80, u81, u82, u83, u84, u85, u86, u87, u88, u89, u90, u91, u92, u93, u94, u95, u96, u97, u98, u99, u100, u101, u102, u103, u104, u105, u106, u107, u108, u109, u110, u111, u112, u113, u114, u115, u116, u117, u118, u119, u120, u121, u122, u123, u124, u125, u126, u127, u128, u129, u130, u131, u132, u133, u134, u135, u136, u137, u138, u139, u140, u141, u142, u143, u144, u145, u146, u147, u148, u149, u150, u151, u152, u153, u154, u155, u156, u157, u158, u159, u160, u161, u162, u163, u164, u165, u166, u167, u168, u169, u170, u171, u172, u173, u174, u175, u176, u177, u178, u179, u180, u181, u182, u183, u184, u185, u186, u187, u188, u189, u190, u191, u192, u193, u194, u195, u196, u197, u198, u199, u200, u201, u202, u203, u204, u205, u206, u207, u208, u209, u210, u211, u212, u213, u214, u215, u216, u217, u218, u219, u220, u221, u222, u223, u224, u225, u226, u227, u228, u229, u230, u231, u232, u233, u234, u235, u236, u237, u238, u239, u240, u241, u242, u243, u244, u245, u246, u247, u248, u249], []⟩ W0 := by
 have HM0 := Lib.hid M0; have HEx := Lib.hid hexit; have HRet := Lib.hid hret
 obtain ⟨l1, l2, l3⟩ := hs.lens
 have ee : gval g ⟨.slice An g.nodes.length cn, .slice Ab g.blocks.length cb, .slice As g.states.length cs⟩ = .agg #[.int .i64 g.fn, .int .i64 g.pc, .int .i64 g.slots, .slice An g.nodes.length cn, .slice Ab g.blocks.length cb, .slice As g.states.length cs] := rfl
 have E0 := Lib.hid ee
 clear M0 hexit hret ee
 conv => arg 2; arg 1; whnf
 dsimp only
 go_loopw [13] (fun t wr => ∃ k : Nat, k ≤ g.blocks.length ∧ t = .int .i64 k ∧ Hid (Below W0.heap.size W0 wr) ∧ Hid (∀ (b : Nat) x, b < k → g.blocks[b]? = some x → AhF g x b)) (fun t _ => g.blocks.length - (intOf t).toNat)
 case atStart => exact ⟨0, Nat.zero_le _, rfl, Lib.hid (Below.refl _ _), Lib.hid (fun b x h => by omega)⟩
 case round =>
  obtain ⟨k, hk, rfl, HB, HA⟩ := hrel
  obtain ⟨wq, rfl⟩ : ∃ wq : World, wq = wr := ⟨_, rfl⟩
  have HM := Lib.hid (HM0.out.below HB.out)
  obtain ⟨q0, q1, q2, q3, q4, q5⟩ := HM.out.gr.cells
  have ql := HM.out.gr.lt
  simp only at q3 q4 q5
  by_cases hlt : k < g.blocks.length
  ·obtain ⟨x, hx⟩ := getE hlt
   have HX := Lib.hid hx
   have hc := ref16ahead_any wq ⟨.slice An g.nodes.length cn, .slice Ab g.blocks.length cb, .slice As g.states.length cs⟩ g k x hs HM.out.gr.graph hx
   rw [E0.out] at hc
   have HC := Lib.hid hc
   clear hc hx
   go_wp2_with (go_at_call 23; (with_reducible refine Calls.mono HC.out ?_); rintro e w4 ⟨⟨t4, rfl, ht4⟩, hb4⟩; have HT4 := Lib.hid ht4; have HB4 := Lib.hid hb4; clear ht4 hb4; cases t4)
   ·refine HRet.out _ _ ?_
    go_ret
    exact ⟨8, rfl, fun h => absurd h (by decide), (HM.out.below HB4.out).low⟩
   ·go_roundw
    case rel => exact ⟨k + 1, by omega, by go_num, Lib.hid (HB.out.trans (HB4.out.mono HB.out.size)), Lib.hid (fun b x' hb hx' => by
     rcases Nat.lt_or_ge b k with h | h
     ·exact HA.out b x' h hx'
     ·obtain rfl : b = k := by omega
      rw [HX.out] at hx'; injection hx' with hx'; subst hx'
      exact HT4.out (by first | trivial | rfl))⟩
    case measure => simp [intOf]; omega
  ·go_wp2_with fail
   exact HEx.out _ _ _ _ _ _ _ _ _ _ _ _ _ _ ⟨HB.out, fun b x hx => HA.out b x (by have := (List.getElem?_eq_some_iff.1 hx).1; omega) hx⟩
end Go.Proofs.YtkmfdiboekoioaaGreat
