/- The blocks that are reached, as the reference 16 lists them. Conditions: a small graph that lies in memory. -/
import Derived.Test.YtkmfdiboekoioaaGreatCRfHas
import Derived.Test.YtkmfdiboekoioaaGreatCReach
import Derived.RangeFuncBox
import Derived.Test.YtkmfdiboekoioaaGreatCAbove
set_option linter.unusedSimpArgs false
set_option linter.unusedVariables false
namespace Go.Proofs.YtkmfdiboekoioaaGreat
open Go.RowKit
theorem nodup_len : ∀ (N : Nat) (l : List Int), l.Nodup → (∀ z ∈ l, 0 ≤ z ∧ z < (N : Int)) → l.length ≤ N
 | 0, l, _, h => by
  cases l with
  | nil => simp
  | cons a l => have := h a (by simp); omega
 | N + 1, l, hn, h => by
  by_cases hm : (N : Int) ∈ l
  ·have h1 := List.length_erase_of_mem hm
   have h2 := nodup_len N (l.erase (N : Int)) (hn.erase _) (fun z hz => by
    obtain ⟨q1, q2⟩ := (hn.mem_erase_iff).1 hz
    have := h z q2
    omega)
   have h3 : 0 < l.length := List.length_pos_of_mem hm
   omega
  ·have := nodup_len N l hn (fun z hz => by
    have h1 := h z hz
    have : z ≠ (N : Int) := fun e => hm (e ▸ hz)
    omega)
   omega
/-- The list of those that are reached so far, of which i are gone through. -/
structure RL (g : GraphP) (wo : Int) (l : List Int) (i : Nat) : Prop where
 nodup : l.Nodup
 sound : ∀ z ∈ l, Reach g wo 0 z
 first : okB g wo 0 → (0 : Int) ∈ l
 closed : ∀ (j : Nat) z, j < i → l[j]? = some z → ∀ n ∈ nextOf g z, okB g wo n → n ∈ l
theorem RL.range {g : GraphP} {wo : Int} {l : List Int} {i : Nat} (h : RL g wo l i) : ∀ z ∈ l, 0 ≤ z ∧ z < (g.blocks.length : Int) := fun z hz => by
 have := (h.sound z hz).ok
 exact ⟨this.1, this.2.1⟩
theorem RL.len {g : GraphP} {wo : Int} {l : List Int} {i : Nat} (h : RL g wo l i) : l.length ≤ g.blocks.length := nodup_len _ l h.nodup h.range
structure RK (g : GraphP) (wo : Int) (l : List Int) (i : Nat) (z : Int) (x : BlockP) (k : Nat) : Prop where
 rl : RL g wo l i
 at_ : l[i]? = some z
 bl : blockAt g z = some x
 new : ∀ n ∈ x.next.take k, okB g wo n → n ∈ l
theorem RK.start {g : GraphP} {wo : Int} {l : List Int} {i : Nat} {z : Int} {x : BlockP} (h : RL g wo l i) (ha : l[i]? = some z) (hb : blockAt g z = some x) : RK g wo l i z x 0 := ⟨h, ha, hb, by simp⟩
theorem RK.skip {g : GraphP} {wo : Int} {l : List Int} {i k : Nat} {z n : Int} {x : BlockP} (h : RK g wo l i z x k) (hn : x.next[k]? = some n) (hs : okB g wo n → n ∈ l) : RK g wo l i z x (k + 1) :=
 ⟨h.rl, h.at_, h.bl, fun m hm ho => by
  rw [List.take_add_one, hn] at hm
  rcases List.mem_append.1 hm with hm | hm
  ·exact h.new m hm ho
  ·simp at hm; subst hm; exact hs ho⟩
theorem RK.add {g : GraphP} {wo : Int} {l : List Int} {i k : Nat} {z n : Int} {x : BlockP} (h : RK g wo l i z x k) (hn : x.next[k]? = some n) (ho : okB g wo n) (hm : n ∉ l) : RK g wo (l ++ [n]) i z x (k + 1) := by
 have hzl : i < l.length := by
  rcases Nat.lt_or_ge i l.length with q | q
  ·exact q
  ·have := h.at_; rw [List.getElem?_eq_none q] at this; cases this
 refine ⟨⟨?_, ?_, fun o => by simp [h.rl.first o], ?_⟩, ?_, h.bl, ?_⟩
 ·rw [List.nodup_append]
  exact ⟨h.rl.nodup, by simp, fun a ha b hb => by simp at hb; subst hb; exact fun e => hm (e ▸ ha)⟩
 ·intro y hy
  rcases List.mem_append.1 hy with hy | hy
  ·exact h.rl.sound y hy
  ·simp at hy; subst hy
   refine (h.rl.sound z (List.mem_of_getElem? h.at_)).snoc ?_ ho
   unfold nextOf; rw [h.bl]; exact List.mem_of_getElem? hn
 ·intro j y hj hy m hm' ho'
  rw [List.getElem?_append_left (by omega)] at hy
  exact List.mem_append_left _ (h.rl.closed j y hj hy m hm' ho')
 ·rw [List.getElem?_append_left hzl]; exact h.at_
 ·intro m hm' ho'
  rw [List.take_add_one, hn] at hm'
  rcases List.mem_append.1 hm' with hm' | hm'
  ·exact List.mem_append_left _ (h.new m hm' ho')
  ·simp at hm'; subst hm'; simp
theorem RK.done {g : GraphP} {wo : Int} {l : List Int} {i : Nat} {z : Int} {x : BlockP} {k : Nat} (h : RK g wo l i z x k) (hk : x.next.length ≤ k) : RL g wo l (i + 1) :=
 ⟨h.rl.nodup, h.rl.sound, h.rl.first, fun j y hj hy m hm ho => by
  rcases Nat.lt_or_ge j i with q | q
  ·exact h.rl.closed j y q hy m hm ho
  ·obtain rfl : j = i := by omega
   rw [h.at_] at hy; injection hy with hy; subst hy
   refine h.new m ?_ ho
   rw [List.take_of_length_le hk]
   unfold nextOf at hm; rw [h.bl] at hm; exact hm⟩
theorem RL.all {g : GraphP} {wo : Int} {l : List Int} {i : Nat} (h : RL g wo l i) (hi : l.length ≤ i) (z : Int) : z ∈ l ↔ Reach g wo 0 z := by
 refine ⟨h.sound z, fun hr => ?_⟩
 have key : ∀ b y, Reach g wo b y → b ∈ l → y ∈ l := by
  intro b y hy
  induction hy with
  | refl b _ => exact id
  | step b n y hb hn hr ih =>
   intro hbl
   refine ih ?_
   obtain ⟨j, hj⟩ := List.mem_iff_getElem?.1 hbl
   have hjl : j < l.length := by
    rcases Nat.lt_or_ge j l.length with q | q
    ·exact q
    ·rw [List.getElem?_eq_none q] at hj; cases hj
   exact h.closed j b (by omega) hj n hn hr.ok'
 exact key 0 z hr (h.first hr.ok')
theorem RL.start (g : GraphP) {wo : Int} (l : List Int) (h : (l = [] ∧ ¬ okB g wo 0) ∨ (l = [0] ∧ okB g wo 0)) : RL g wo l 0 := by
 rcases h with ⟨rfl, h⟩ | ⟨rfl, h⟩
 ·exact ⟨by simp, by simp, fun o => absurd o h, fun j z hj => by omega⟩
 ·exact ⟨by simp, fun z hz => by simp at hz; subst hz; exact Reach.refl 0 h, fun _ => by simp, fun j z hj => by omega⟩
/-- What 'reached' of the reference answers. -/
def Reached16 (g : GraphP) (wo : Int) (w : World) (e : Ending) (w' : World) : Prop := ∃ v l, e = .returned v ∧ OwnInts w' w.heap.size v l ∧ l.length ≤ g.blocks.length ∧ (∀ z, z ∈ l ↔ Reach g wo 0 z) ∧ Below w.heap.size w w'
set_option maxRecDepth 100000 in
set_option maxHeartbeats 16000000 in
theorem reached16_any (w : World) (g : GraphP) (xv : GVals) (wo : Int) (hs : Small g) (hg : GraphV w w.heap.size xv g) : Calls Tryz.prog 61 #[gval g xv, .int .i64 wo] w (Reached16 g wo w) := by
 have HG := Lib.hid hg
 obtain ⟨vn, vb, vs⟩ := xv
 obtain ⟨⟨An, cn, en, _⟩, ⟨Ab, cb, eb, _, hlb, hqb⟩, ⟨As, cs, es, _⟩⟩ := hg
 simp only at en eb es
 subst en eb es
 obtain ⟨l1, l2, l3⟩ := hs.lens
 obtain ⟨i0, hi, hz0, hz1, hz2⟩ := info_parts int_info
 clear hlb hqb
 have ee : gval g ⟨.slice An g.nodes.length cn, .slice Ab g.blocks.length cb, .slice As g.states.length cs⟩ = .agg #[.int .i64 g.fn, .int .i64 g.pc, .int .i64 g.slots, .slice An g.nodes.length cn, .slice Ab g.blocks.length cb, .slice As g.states.length cs] := rfl
 have E0 := Lib.hid ee; clear ee
 rw [E0.out]
 obtain ⟨w1, hw1⟩ : ∃ w1, w1 = w.alloc (.cells #[.int .i64 g.fn, .int .i64 g.pc, .int .i64 g.slots, .slice An g.nodes.length cn, .slice Ab g.blocks.length cb, .slice As g.states.length cs] 28) := ⟨_, rfl⟩
 have HK1 : Hid (Blk w1 w.heap.size 28 #[.int .i64 g.fn, .int .i64 g.pc, .int .i64 g.slots, .slice An g.nodes.length cn, .slice Ab g.blocks.length cb, .slice As g.states.length cs]) := Lib.hid (by rw [hw1]; exact Blk.new _ _ _)
 have HB1 : Hid (Below w.heap.size w w1) := Lib.hid (by rw [hw1]; exact (Below.refl _ _).alloc (Nat.le_refl _) _)
 have hsz1 : w1.heap.size = w.heap.size + 1 := by rw [hw1]; simp
 have HSZ1 := Lib.hid hsz1
 have q4 := HK1.out.cell 4
 have xl := HK1.out.lt
 clear hsz1
 go_enter Tryz.func61, Tryz.ntmps61
 go_upto_region 1 with fail
 rw [← hw1]
 clear hw1
 by_cases h1 : 0 < g.blocks.length
 ·by_cases h2 : wo = 0
  ·have b1 : (wo != 0) = false := by simp [h2]
   have HR0 : Hid (RL g wo [] 0) := Lib.hid (RL.start g [] (.inl ⟨rfl, fun h => h.2.2 h2.symm⟩))
   clear h2
   go_wp2_with fail
   go_loopw [5, 6] (fun v t wr => v = .slice none 0 0 ∧ t = .int .i64 0 ∧ wr = w1) (fun _ _ _ => 0)
   case atStart => exact ⟨rfl, rfl, by trivial⟩
   case round =>
    obtain ⟨rfl, rfl, hw⟩ := hrel
    subst hw
    go_wp2_with fail
    go_ret
    exact ⟨_, [], rfl, OwnInts.nil _ _, Nat.zero_le _, HR0.out.all (Nat.le_refl _), HB1.out⟩
  ·have H2 := Lib.hid (show wo = 0 → False from h2)
   have b1 : (wo != 0) = true := by simp [h2]
   clear h2
   obtain ⟨w2, hw2⟩ : ∃ w2, w2 = w1.alloc (.cells #[.int .i64 0] 3) := ⟨_, rfl⟩
   have HO2 : Hid (OwnInts w2 (w.heap.size + 1) (.slice (some ⟨w1.heap.size, 0, none⟩) 1 1) [0]) := Lib.hid (by
    rw [hw2]
    exact World.ownsRow_lit (e := 3) (size := 1) (base := w.heap.size + 1) w1 #[.int .i64 0] 1 (by rw [HSZ1.out]; omega) (by decide) rfl)
   have HB2 : Hid (Below (w.heap.size + 1) w1 w2) := Lib.hid (by rw [hw2]; exact (Below.refl _ _).alloc (by rw [HSZ1.out]; omega) _)
   have HR2 : Hid (RL g wo [0] 0) := Lib.hid (RL.start g [0] (.inr ⟨rfl, by omega, by omega, fun e => H2.out e.symm⟩))
   go_upto_region 4 with fail
   rw [← hw2]
   clear hw2 b1
   go_wp2_with fail
   go_loopw [5, 6] (fun v t wr => ∃ (i : Nat) (l : List Int), t = .int .i64 i ∧ Hid (OwnInts wr (w.heap.size + 1) v l) ∧ Hid (RL g wo l i) ∧ i ≤ l.length ∧ (v = .slice none 0 0 ∧ l = [] ∨ ∃ b c, v = .slice (some ⟨b, 0, none⟩) l.length c) ∧ Hid (Below (w.heap.size + 1) w1 wr)) (fun _ t _ => g.blocks.length + 1 - (intOf t).toNat)
   case atStart => exact ⟨0, [0], rfl, HO2, HR2, Nat.zero_le _, .inr ⟨_, _, rfl⟩, HB2⟩
   case round =>
    obtain ⟨i, l, rfl, HOw, HRl, hil, hv5, HBr⟩ := hrel
    obtain ⟨wq, rfl⟩ : ∃ wq : World, wq = wr := ⟨_, rfl⟩
    have hll := HRl.out.len
    have hk4 := HK1.out.below HBr.out (by have := HSZ1.out; omega)
    have r4 := hk4.cell 4
    have rl := hk4.lt
    clear hk4 q4 xl
    have HBw : Hid (Below w.heap.size w wq) := Lib.hid (HB1.out.trans (HBr.out.mono (by omega)))
    have hbs := HBr.out.size
    by_cases hlt : i < l.length
    ·rcases hv5 with ⟨_, e⟩ | ⟨b5, c5, rfl⟩
     ·rw [e] at hlt; exact absurd hlt (by simp)
     obtain ⟨zz, hz⟩ := rget hlt
     have hzb := HRl.out.range zz (List.mem_of_getElem? hz)
     obtain ⟨z, rfl⟩ : ∃ z : Nat, zz = (z : Int) := ⟨zz.toNat, by omega⟩
     have hzl : z < g.blocks.length := by omega
     obtain ⟨B5, o5, e5, _, hp5⟩ := (HOw.out.ints (by unfold lim; omega)).cells hlt
     injection e5 with e5
     injection e5 with e5 e6
     subst e5 e6
     have z0 := hp5 i _ hz
     rw [Nat.zero_add] at z0
     obtain ⟨x, hx⟩ := rget hzl
     obtain ⟨A9, c9, e9, _, _, hp9⟩ := (HG.out.keep (Same.of_below HBw.out)).2.1
     injection e9 with e9 e9b e9c
     clear e9b e9c
     obtain ⟨bb, ob, e10, hbb, hp9⟩ := hp9 (by omega)
     rw [← e9] at e10
     subst e10
     obtain ⟨⟨v0, f0, i0'⟩, f1, ⟨v2, f2, i2⟩, ⟨v3, f3, i3⟩, ⟨v4, f4, i4⟩, f5⟩ := hp9 z x hx
     have HI3 := Lib.hid i3
     obtain ⟨A3, d3, rfl, _, m3, _⟩ := i3
     have k3 : x.next.length ≤ 17592186044416 := by unfold lim at m3; omega
     have HK : Hid (RK g wo l i (z : Int) x 0) := Lib.hid (RK.start HRl.out hz (by rw [blockAt_nat]; exact hx))
     clear hp5 hz hp9 hx e9 f0 f1 f2 f4 f5 i0' i2 i4 m3 hzb
     go_upto_region 9 with go_quiet (fail)
     go_loopw [5, 8] (fun v t wr => ∃ (k : Nat) (l' : List Int), k ≤ x.next.length ∧ t = .int .i64 k ∧ Hid (OwnInts wr (w.heap.size + 1) v l') ∧ Hid (RK g wo l' i (z : Int) x k) ∧ (∃ b c, v = .slice (some ⟨b, 0, none⟩) l'.length c) ∧ Hid (Below (w.heap.size + 1) w1 wr)) (fun _ t _ => x.next.length - (intOf t).toNat)
     case atStart => exact ⟨0, l, Nat.zero_le _, rfl, HOw, HK, ⟨_, _, rfl⟩, Lib.hid (bdrew HBr.out)⟩
     case round =>
      obtain ⟨k, l', hk, rfl, HOw4, HK4, ⟨b6, c6, rfl⟩, HB4⟩ := hrel
      have hll4 := HK4.out.rl.len
      have HBw4 : Hid (Below w.heap.size w wr) := Lib.hid (HB1.out.trans (HB4.out.mono (by omega)))
      have hk5 := HK1.out.below HB4.out (by have := HSZ1.out; omega)
      have r44 := hk5.cell 4
      have rl4 := hk5.lt
      have hbs4 := HB4.out.size
      clear hk5 r4 z0
      by_cases hlk : k < x.next.length
      ·obtain ⟨B7, o7, rfl, _, hp7⟩ := (HI3.out.keep (fun q hq => (HBw4.out.cell hq).trans (HBw.out.cell hq).symm)).cells hlk
       obtain ⟨n, hn⟩ := rget hlk
       have n0 := hp7 k n hn
       have HN := Lib.hid hn
       clear hp7 hn
       rcases d1 : decide (0 ≤ n) with _ | _
       ·have D1 := Lib.hid d1
        go_wp2_with go_quiet (fail)
        go_roundw
        case rel => exact ⟨k + 1, l', by omega, by go_num, Lib.hid HOw4.out, Lib.hid (HK4.out.skip HN.out (fun h => absurd h.1 (of_decide_eq_false D1.out))), ⟨_, _, rfl⟩, Lib.hid (bdrew HB4.out)⟩
        case measure => simp [intOf]; omega
       ·rcases d2 : decide (n < (g.blocks.length : Int)) with _ | _
        ·have D2 := Lib.hid d2
         go_wp2_with go_quiet (fail)
         go_roundw
         case rel => exact ⟨k + 1, l', by omega, by go_num, Lib.hid HOw4.out, Lib.hid (HK4.out.skip HN.out (fun h => absurd h.2.1 (of_decide_eq_false D2.out))), ⟨_, _, rfl⟩, Lib.hid (bdrew HB4.out)⟩
         case measure => simp [intOf]; omega
        ·rcases d3 : (n != wo) with _ | _
         ·have D3 := Lib.hid d3
          go_wp2_with go_quiet (fail)
          go_roundw
          case rel => exact ⟨k + 1, l', by omega, by go_num, Lib.hid HOw4.out, Lib.hid (HK4.out.skip HN.out (fun h => absurd (bne_eq_false_iff_eq.1 D3.out) h.2.2)), ⟨_, _, rfl⟩, Lib.hid (bdrew HB4.out)⟩
          case measure => simp [intOf]; omega
         ·rcases d4 : decide (n ∈ l') with _ | _
          ·have D4 := Lib.hid d4; have D1 := Lib.hid d1; have D2 := Lib.hid d2; have D3 := Lib.hid d3
           have HC : Hid (∀ m, Calls Tryz.prog 60 #[.slice (some ⟨b6, 0, none⟩) l'.length c6, .int .i64 n] (wr.drewN m) (fun e w' => e = .returned (.bool false) ∧ w' = wr.drewN m)) := Lib.hid (fun m => by
            have := has16_any (wr.drewN m) _ l' n ((HOw4.out.ints (by unfold lim; omega)).keep (fun _ _ => rfl))
            rw [D4.out] at this
            exact this)
           clear d4
           have HRK : Hid (RK g wo (l' ++ [n]) i (z : Int) x (k + 1)) := Lib.hid (HK4.out.add HN.out ⟨of_decide_eq_true D1.out, of_decide_eq_true D2.out, by have := D3.out; simpa using this⟩ (of_decide_eq_false D4.out))
           go_upto_region 12 with go_quiet ((go_at_call 60; refine Calls.quiet_of_same (HC.out _)))
           obtain ⟨wd, hwd⟩ : ∃ wd, wd = wr.drewN nq := ⟨_, rfl⟩
           have HOd : Hid (OwnInts wd (w.heap.size + 1) (.slice (some ⟨b6, 0, none⟩) l'.length c6) l') := Lib.hid (by rw [hwd]; exact HOw4.out)
           have HBd : Hid (Below (w.heap.size + 1) w1 wd) := Lib.hid (by rw [hwd]; exact bdrew HB4.out)
           have nd : wd.cell? ⟨B7, o7 + k, none⟩ = some (.int .i64 n) := by rw [hwd]; exact n0
           have hwds : w.heap.size + 1 ≤ wd.heap.size := by have := HBd.out.size; have := HSZ1.out; omega
           rw [← hwd]
           clear hwd n0 r44 rl4 hbs4
           go_wp2_with (at_builtin; refine wpList_append_own_at _ rfl (.tmp 71) (.tmp 76) 34 rfl (w.heap.size + 1) 3 i0 (.int .i64 0) 1 8 Tryz.underlying34 hi hz0 hz1 hz2 rfl (by decide) _ _ _ rfl (HOd.out.alloc _) ⟨wd.heap.size, 0, none⟩ 1 1 [.int .i64 n] rfl rfl (cell_one_new _ _ _) (ints_oneCell .i64 [n]) (by unfold maxLen; omega) (by omega) (by simp; omega) ?_; intro v' w5 hown' hgrow _ _)
           obtain ⟨b8, c8, rfl⟩ : ∃ b c, v' = .slice (some ⟨b, 0, none⟩) (l' ++ [n]).length c := by
            obtain ⟨b8, c8, h8⟩ := ownsRow_succ hown'
            exact ⟨b8, c8, by rw [h8]; simp⟩
           go_roundw
           case rel => exact ⟨k + 1, l' ++ [n], by omega, by go_num, Lib.hid (OwnInts.snoc (by simpa using hown')), HRK, ⟨_, _, rfl⟩, Lib.hid ((HBd.out.alloc hwds _).grown hgrow (by simp; omega) (fun q e => (HOd.out.lt q e).1))⟩
           case measure => simp [intOf]; omega
          ·have D4 := Lib.hid d4
           have HC : Hid (∀ m, Calls Tryz.prog 60 #[.slice (some ⟨b6, 0, none⟩) l'.length c6, .int .i64 n] (wr.drewN m) (fun e w' => e = .returned (.bool true) ∧ w' = wr.drewN m)) := Lib.hid (fun m => by
            have := has16_any (wr.drewN m) _ l' n ((HOw4.out.ints (by unfold lim; omega)).keep (fun _ _ => rfl))
            rw [D4.out] at this
            exact this)
           clear d4
           go_wp2_with go_quiet ((go_at_call 60; refine Calls.quiet_of_same (HC.out _)))
           go_roundw
           case rel => exact ⟨k + 1, l', by omega, by go_num, Lib.hid HOw4.out, Lib.hid (HK4.out.skip HN.out (fun _ => of_decide_eq_true D4.out)), ⟨_, _, rfl⟩, Lib.hid (bdrew HB4.out)⟩
           case measure => simp [intOf]; omega
      ·have HRd := Lib.hid (HK4.out.done (by omega))
       have hil4 : i < l'.length := by
        rcases Nat.lt_or_ge i l'.length with q | q
        ·exact q
        ·have := HK4.out.at_; rw [List.getElem?_eq_none q] at this; cases this
       go_wp2_with fail
       go_roundw
       case rel => exact ⟨i + 1, l', by go_num, HOw4, HRd, by omega, .inr ⟨_, _, rfl⟩, HB4⟩
       case measure => simp [intOf]; omega
    ·rcases hv5 with ⟨rfl, rfl⟩ | ⟨b5, c5, rfl⟩
     ·go_wp2_with fail
      go_ret
      exact ⟨_, [], rfl, HOw.out.mono (Nat.le_succ _), Nat.zero_le _, HRl.out.all (by omega), HBw.out⟩
     ·go_wp2_with fail
      go_ret
      exact ⟨_, l, rfl, HOw.out.mono (Nat.le_succ _), hll, HRl.out.all (by omega), HBw.out⟩
 ·have HR0 : Hid (RL g wo [] 0) := Lib.hid (RL.start g [] (.inl ⟨rfl, fun h => h1 (by have := h.2.1; omega)⟩))
  go_wp2_with fail
  go_loopw [5, 6] (fun v t wr => v = .slice none 0 0 ∧ t = .int .i64 0 ∧ wr = w1) (fun _ _ _ => 0)
  case atStart => exact ⟨rfl, rfl, by trivial⟩
  case round =>
   obtain ⟨rfl, rfl, hw⟩ := hrel
   subst hw
   go_wp2_with fail
   go_ret
   exact ⟨_, [], rfl, OwnInts.nil _ _, Nat.zero_le _, HR0.out.all (Nat.le_refl _), HB1.out⟩
end Go.Proofs.YtkmfdiboekoioaaGreat

/- Which blocks stand above which, as the reference 16 lists it. Conditions: a small graph that lies in memory. -/
namespace Go.Proofs.YtkmfdiboekoioaaGreat
open Go.RowKit
/-- No row of the table is this one. -/
def ApartT (v : Value) (L : Tracked) : Prop := ∀ p ∈ L, v.ownBlock = none ∨ v.ownBlock ≠ p.1.ownBlock
structure BMem (w : World) (g : GraphP) (xv : GVals) (bo : Nat) (v1 : Value) (s1 : List Int) (L : Tracked) (wr : World) : Prop where
 gr : GCtx wr w.heap.size w.heap.size xv g
 tab : Tab wr w.heap.size bo L
 s1 : OwnInts wr w.heap.size v1 s1
 ap : ApartT v1 L
 low : Below w.heap.size w wr
 bo_ : w.heap.size < bo
section
variable {w : World} {g : GraphP} {xv : GVals} {bo : Nat} {v1 : Value} {s1 : List Int} {L : Tracked} {wr w2 : World}
theorem BMem.below (h : BMem w g xv bo v1 s1 L wr) (hb : Below wr.heap.size wr w2) : BMem w g xv bo v1 s1 L w2 :=
 ⟨h.gr.below hb, h.tab.below hb, h.s1.below hb, h.ap, h.low.trans (hb.mono h.low.size), h.bo_⟩
theorem BMem.keep {j : Nat} {v v' : Value} {l : List Int} {tmp : Obj} {u : Value} {s : List Int} {w4 : World} (h : BMem w g xv bo v1 s1 L wr) (hj : L[j]? = some (v, l)) (hs : OwnInts wr w.heap.size u s) (ha : ApartT u L) (hg : (wr.alloc tmp).grownBy w4 v.ownBlock) : OwnInts (w4.setCell ⟨bo, j, none⟩ v') w.heap.size u s := by
 have h1 : OwnInts w4 w.heap.size u s := World.ownsRow.kept (World.ownsRow.alloc hs tmp) hg (ha _ (List.mem_of_getElem? hj))
 have hr : Blk w4 bo 34 (firsts L).toArray := (h.tab.row.alloc tmp).grown hg (fun e => own_ne_blk (h.tab.own _ (List.mem_of_getElem? hj)) h.tab.row (by decide) e.symm)
 exact World.ownsRow.kept (row := some bo) h1 ⟨rfl, rfl, rfl, by simp [World.setCell], fun k _ hk => Below.heap_setCell _ _ _ k (fun e => hk (by rw [e]))⟩ (.inr (own_ne_blk h1 hr (by decide)))
theorem BMem.apart {j : Nat} {v v' : Value} {l l' : List Int} {tmp : Obj} {u : Value} {s : List Int} (h : BMem w g xv bo v1 s1 L wr) (hj : L[j]? = some (v, l)) (hs : OwnInts wr w.heap.size u s) (ha : ApartT u L) (hv : v'.ownBlock = v.ownBlock ∨ v'.ownBlock = some (wr.alloc tmp).heap.size) : ApartT u (L.set j (v', l')) := fun p hp => by
 rcases List.mem_or_eq_of_mem_set hp with hp | rfl
 ·exact ha p hp
 ·rcases hv with hv | hv
  ·simp only; rw [hv]; exact ha _ (List.mem_of_getElem? hj)
  ·simp only; rw [hv]
   cases hb : u.ownBlock with
   | none => exact .inl rfl
   | some k =>
    refine .inr fun e => ?_
    injection e with e
    have := (World.ownsRow.lt hs k hb).2
    rw [e, World.size_alloc] at this
    omega
theorem BMem.put {j : Nat} {v v' : Value} {l l' : List Int} {tmp : Obj} {w4 : World} (h : BMem w g xv bo v1 s1 L wr) (hj : L[j]? = some (v, l)) (hg : (wr.alloc tmp).grownBy w4 v.ownBlock) (ht : Tab (w4.setCell ⟨bo, j, none⟩ v') w.heap.size bo (L.set j (v', l'))) (hv : v'.ownBlock = v.ownBlock ∨ v'.ownBlock = some (wr.alloc tmp).heap.size) :
  BMem w g xv bo v1 s1 (L.set j (v', l')) (w4.setCell ⟨bo, j, none⟩ v') := by
 have hown := h.tab.own _ (List.mem_of_getElem? hj)
 have hlow : Below w.heap.size w (w4.setCell ⟨bo, j, none⟩ v') := ((h.low.alloc h.low.size tmp).grown hg (by have := h.low.size; simp; omega) (fun k e => (World.ownsRow.lt hown k e).1)).setCell (p := ⟨bo, j, none⟩) (Nat.le_of_lt h.bo_) _
 refine ⟨⟨?_, hlow.size, ?_⟩, ht, h.keep hj h.s1 h.ap hg, h.apart hj h.s1 h.ap hv, hlow, h.bo_⟩
 ·have hb : Below w.heap.size wr (w4.setCell ⟨bo, j, none⟩ v') := (((Below.refl w.heap.size wr).alloc h.low.size tmp).grown hg (by have := h.low.size; simp; omega) (fun k e => (World.ownsRow.lt hown k e).1)).setCell (p := ⟨bo, j, none⟩) (Nat.le_of_lt h.bo_) _
  exact h.gr.gr.keep (Same.of_below hb)
 ·have := ((h.gr.box.alloc tmp).grown hg (fun e => own_ne_blk hown h.gr.box (by decide) e.symm)).far (p := ⟨bo, j, none⟩) (Nat.ne_of_lt h.bo_) v'
  exact this
theorem apart_new {u : Value} {s : List Int} {w0 : World} (h : BMem w g xv bo v1 s1 L wr) (hs : OwnInts w0 wr.heap.size u s) : ApartT u L := fun p hp => by
 cases hb : u.ownBlock with
 | none => exact .inl rfl
 | some k =>
  refine .inr fun e => ?_
  have h1 := (World.ownsRow.lt hs k hb).1
  have h2 := (World.ownsRow.lt (h.tab.own p hp) k e.symm).2
  omega
end
def Above16 (g : GraphP) (w : World) (e : Ending) (w' : World) : Prop := ∃ v, e = .returned v ∧ RowsV w' w'.heap.size v ((List.range g.blocks.length).map (fun b => aboveTo g b g.blocks.length)) ∧ Below w.heap.size w w'
set_option maxRecDepth 100000 in
set_option maxHeartbeats 8000000 in
theorem above16_any (w : World) (g : GraphP) (xv : GVals) (hs : Small g) (hg : GraphV w w.heap.size xv g) : Calls Tryz.prog 24 #[gval g xv] w (Above16 g w) := by
 obtain ⟨vn, vb, vs⟩ := xv
 have HG := Lib.hid hg
 obtain ⟨_, hb, _⟩ := hg
 simp only at hb
 obtain ⟨Ab, cb, rfl, _, _, _⟩ := hb
 obtain ⟨l1, l2, l3⟩ := hs.lens
 obtain ⟨i0, hi, hz0, hz1, hz2⟩ := info_parts int_info
 obtain ⟨i1, hi1, hy0, hy1, hy2⟩ := info_parts rows_info
 have hmk := fun W : World => run_make (P := Tryz.prog) W 42 34 i1 (.slice none 0 0) Tryz.underlying42 hi1 hy0 .i64 .i64 (g.blocks.length : Int) (g.blocks.length : Int) (by omega) (Int.le_refl _) (by rw [hy2]; omega) (by omega)
 simp only [hy1, Int.toNat_natCast, Value.cells, Nat.mul_one] at hmk
 unfold gval
 go_enter Tryz.func24, Tryz.ntmps24
 go_upto_region 3 with fail
 obtain ⟨w1, hw1⟩ : ∃ w1 : World, w1 = (w.alloc (.cells (gbox g ⟨vn, .slice Ab g.blocks.length cb, vs⟩) 28)).alloc (.cells (madeCells #[.slice none 0 0] g.blocks.length) 34) := ⟨_, rfl⟩
 have HB1 : Hid (Below w.heap.size w w1) := Lib.hid (by subst hw1; exact ((Below.refl _ _).alloc (Nat.le_refl _) _).alloc (by simp) _)
 have HC1 : Hid (GCtx w1 w.heap.size w.heap.size ⟨vn, .slice Ab g.blocks.length cb, vs⟩ g) := Lib.hid ⟨HG.out.keep (Same.of_below HB1.out), HB1.out.size, by subst hw1; exact (Blk.new w _ _).alloc _⟩
 have HT1 : Hid (Tab w1 w.heap.size (w.heap.size + 1) (List.replicate g.blocks.length (.slice none 0 0, []))) := Lib.hid (by
  refine ⟨?_, fun p hp => ?_, fun i j p q hi => ?_⟩
  ·have := Blk.new (w.alloc (.cells (gbox g ⟨vn, .slice Ab g.blocks.length cb, vs⟩) 28)) 34 (madeCells #[.slice none 0 0] g.blocks.length)
   rw [World.size_alloc, above_made] at this
   rw [hw1, above_made]
   exact this
  ·rw [List.eq_of_mem_replicate hp]
   exact OwnInts.nil _ _
  ·rw [List.eq_of_mem_replicate (List.mem_of_getElem? hi)]
   exact fun _ _ => .inl rfl)
 unfold gbox at hw1
 simp only at hw1
 rw [← hw1]
 obtain ⟨q0, q1c, q2c, q3, q4, q5⟩ := HC1.out.cells
 simp only at q3 q4 q5
 clear hw1 hmk
 go_upto_region 4 with (go_at_call 61; refine (reached16_any w1 g ⟨vn, .slice Ab g.blocks.length cb, vs⟩ (-1) hs HC1.out.graph).mono ?_; rintro e w2 ⟨v1, s1, rfl, hs2, hl2, hq2, hb2⟩; have HS := Lib.hid hs2; have HQ1 := Lib.hid hq2; have HB12 := Lib.hid hb2; have hl1s := hl2; clear hs2 hq2 hb2 hl2 q0 q1c q2c q3 q4 q5)
 have HSz : Hid (w.heap.size ≤ w1.heap.size) := Lib.hid HB1.out.size
 have H0 : Hid (BMem w g ⟨vn, .slice Ab g.blocks.length cb, vs⟩ (w.heap.size + 1) v1 s1 (List.replicate g.blocks.length (.slice none 0 0, [])) w2) := Lib.hid ⟨HC1.out.below HB12.out, HT1.out.below HB12.out, HS.out.mono HSz.out, fun p hp => by
  rw [List.eq_of_mem_replicate hp]
  cases hb : v1.ownBlock with
  | none => exact .inl rfl
  | some k => exact .inr (by simp [Value.ownBlock]), HB1.out.trans (HB12.out.mono HB1.out.size), by omega⟩
 clear HS HB12 HT1 HC1 HB1
 obtain ⟨bo, hbo⟩ : ∃ bo, bo = w.heap.size + 1 := ⟨_, rfl⟩
 rw [← hbo] at H0 ⊢
 have HBo := Lib.hid hbo
 clear hbo
 go_wp2_with fail
 go_loopw [6] (fun i wr => ∃ (a : Nat) (L : Tracked), i = .int .i64 a ∧ a ≤ g.blocks.length ∧ Hid (BMem w g ⟨vn, .slice Ab g.blocks.length cb, vs⟩ bo v1 s1 L wr) ∧ Hid (L.map (fun p => p.2) = tbl g a 0)) (fun i _ => g.blocks.length - (intOf i).toNat)
 case atStart => exact ⟨0, _, rfl, Nat.zero_le _, H0, Lib.hid (by rw [tbl_first]; simp)⟩
 case round =>
  obtain ⟨a, L, rfl, ha, HA0, HL0⟩ := hrel
  obtain ⟨wp, rfl⟩ : ∃ wp : World, wp = wr := ⟨_, rfl⟩
  by_cases hal : a < g.blocks.length
  ·obtain ⟨q0, q1c, q2c, q3, q4, q5⟩ := HA0.out.gr.cells
   simp only at q3 q4 q5
   go_upto_region 8 with (go_at_call 61; refine (reached16_any wp g ⟨vn, .slice Ab g.blocks.length cb, vs⟩ a hs HA0.out.gr.graph).mono ?_; rintro e w3 ⟨v2, s2, rfl, hs3, hl3, hq3, hb3⟩; have HAp := Lib.hid (apart_new HA0.out hs3); have HS3 : Hid (OwnInts w3 w.heap.size v2 s2) := Lib.hid (hs3.mono HA0.out.low.size); have HQ2 := Lib.hid hq3; have HA3 := Lib.hid (HA0.out.below hb3); have hl2s := hl3; clear hs3 hq3 hb3 hl3 q0 q1c q2c q3 q4 q5)
   go_wp2_with fail
   go_loopw [8] (fun i wr => ∃ (j : Nat) (L : Tracked), i = .int .i64 j ∧ j ≤ g.blocks.length ∧ Hid (BMem w g ⟨vn, .slice Ab g.blocks.length cb, vs⟩ bo v1 s1 L wr) ∧ Hid (OwnInts wr w.heap.size v2 s2) ∧ Hid (ApartT v2 L) ∧ Hid (L.map (fun p => p.2) = tbl g a j)) (fun i _ => g.blocks.length - (intOf i).toNat)
   case atStart => exact ⟨0, L, rfl, Nat.zero_le _, HA3, HS3, HAp, HL0⟩
   case round =>
    obtain ⟨j, L2, rfl, hj, HA, HS2, HAp2, HL⟩ := hrel
    clear HA3 HS3 HAp
    by_cases hlt : j < g.blocks.length
    ·have HLj' : ∃ v, L2[j]? = some (v, aboveTo g j a) := by
      have := tbl_get (g := g) (a := a) hlt
      rw [← HL.out, List.getElem?_map] at this
      cases hp : L2[j]? with
      | none => rw [hp] at this; cases this
      | some p => rw [hp] at this; injection this with this; exact ⟨p.1, by rw [← this]⟩
     obtain ⟨v, hLj⟩ := HLj'
     have hown := HA.out.tab.own _ (List.mem_of_getElem? hLj)
     have hlen := aboveTo_len g j a
     obtain ⟨Av, cv, ev, _⟩ := OwnInts.ints (l := aboveTo g j a) hown (by unfold lim; omega)
     have ev' : v = .slice Av (aboveTo g j a).length cv := ev
     subst ev'
     have HLj := Lib.hid hLj
     have HOwn : Hid (OwnInts wr w.heap.size (.slice Av (aboveTo g j a).length cv) (aboveTo g j a)) := Lib.hid hown
     have c0 := HA.out.tab.cell hLj
     have hwl := HA.out.low.size
     clear hLj hown ev
     have HC1 : Hid (∀ t, t = decide ((j : Int) ∈ s1) → Calls Tryz.prog 60 #[v1, .int .i64 j] wr (fun e w' => e = .returned (.bool t) ∧ w' = wr)) := Lib.hid (fun t ht => by
      rw [ht]; exact has16_any wr v1 s1 j (HA.out.s1.ints (by unfold lim; omega)))
     have HC2 : Hid (∀ t, t = decide ((j : Int) ∈ s2) → Calls Tryz.prog 60 #[v2, .int .i64 j] wr (fun e w' => e = .returned (.bool t) ∧ w' = wr)) := Lib.hid (fun t ht => by
      rw [ht]; exact has16_any wr v2 s2 j (HS2.out.ints (by unfold lim; omega)))
     rcases h1 : decide ((j : Int) ∈ s1) with _ | _
     ·have HC1' := Lib.hid (HC1.out false h1.symm)
      have HAb : Hid (abv g a j) := Lib.hid (.inl fun h => of_decide_eq_false h1 ((HQ1.out _).2 h))
      clear h1
      go_wp2_with first
       | (go_at_call 60; (with_reducible refine Calls.mono HC1'.out ?_); rintro e w9 ⟨rfl, hw9⟩; have hw92 := hw9.symm; subst hw92)
       | (go_at_call 60; (with_reducible refine Calls.mono HC2'.out ?_); rintro e w9 ⟨rfl, hw9⟩; have hw92 := hw9.symm; subst hw92)
       | (at_builtin; refine wpList_append_own_at _ rfl _ _ 34 rfl w.heap.size 3 i0 (.int .i64 0) 1 8 Tryz.underlying34 hi hz0 hz1 hz2 rfl (by decide) _ _ _ rfl (World.ownsRow.alloc (HOwn.out) _) ⟨wr.heap.size, 0, none⟩ 1 1 [.int .i64 (a : Int)] rfl rfl (cell_one_new _ _ _) (by simp [Value.oneCell']) (by unfold maxLen; omega) (by omega) (by have := HA.out.low.size; simp; omega) ?_; intro v' w4 hown' hgrow _ hblk; obtain ⟨g', cap', rfl⟩ := ownsRow_succ hown'; obtain ⟨ht4, hr4⟩ := HA.out.tab.put HLj.out (OwnInts.snoc hown') hgrow hblk; have HT4 := Lib.hid ht4; have e1 := hr4.cell j; have e2 := hr4.frozen j; have e3 := hr4.lt; have HGw := Lib.hid hgrow; have HBk := Lib.hid hblk; have HCell : w4.cell? ⟨bo, j, none⟩ = some (.slice Av (aboveTo g j a).length cv) := (by rw [e1]; simp [firsts, HLj.out]); clear ht4 hr4 hown' hgrow hblk e1)
      go_roundw
      case rel =>
       refine ⟨j + 1, _, by go_num, by omega, Lib.hid (HA.out.put HLj.out HGw.out HT4.out HBk.out), Lib.hid (HA.out.keep HLj.out HS2.out HAp2.out HGw.out), Lib.hid (HA.out.apart HLj.out HS2.out HAp2.out HBk.out), Lib.hid ?_⟩
       rw [List.map_set, HL.out]
       exact tbl_yes hlt HAb.out
      case measure => simp [intOf]; omega
     ·have HC1' := Lib.hid (HC1.out true h1.symm)
      have H1 := Lib.hid ((HQ1.out _).1 (of_decide_eq_true h1))
      clear h1
      by_cases haj : a = j
      ·subst haj
       have HAb : Hid (abv g a a) := Lib.hid (.inr (.inl rfl))
       go_wp2_with first
        | (go_at_call 60; (with_reducible refine Calls.mono HC1'.out ?_); rintro e w9 ⟨rfl, hw9⟩; have hw92 := hw9.symm; subst hw92)
        | (go_at_call 60; (with_reducible refine Calls.mono HC2'.out ?_); rintro e w9 ⟨rfl, hw9⟩; have hw92 := hw9.symm; subst hw92)
        | (at_builtin; refine wpList_append_own_at _ rfl _ _ 34 rfl w.heap.size 3 i0 (.int .i64 0) 1 8 Tryz.underlying34 hi hz0 hz1 hz2 rfl (by decide) _ _ _ rfl (World.ownsRow.alloc (HOwn.out) _) ⟨wr.heap.size, 0, none⟩ 1 1 [.int .i64 (a : Int)] rfl rfl (cell_one_new _ _ _) (by simp [Value.oneCell']) (by unfold maxLen; omega) (by omega) (by have := HA.out.low.size; simp; omega) ?_; intro v' w4 hown' hgrow _ hblk; obtain ⟨g', cap', rfl⟩ := ownsRow_succ hown'; obtain ⟨ht4, hr4⟩ := HA.out.tab.put HLj.out (OwnInts.snoc hown') hgrow hblk; have HT4 := Lib.hid ht4; have e1 := hr4.cell a; have e2 := hr4.frozen a; have e3 := hr4.lt; have HGw := Lib.hid hgrow; have HBk := Lib.hid hblk; have HCell : w4.cell? ⟨bo, a, none⟩ = some (.slice Av (aboveTo g a a).length cv) := (by rw [e1]; simp [firsts, HLj.out]); clear ht4 hr4 hown' hgrow hblk e1)
       go_roundw
       case rel =>
        refine ⟨a + 1, _, by go_num, by omega, Lib.hid (HA.out.put HLj.out HGw.out HT4.out HBk.out), Lib.hid (HA.out.keep HLj.out HS2.out HAp2.out HGw.out), Lib.hid (HA.out.apart HLj.out HS2.out HAp2.out HBk.out), Lib.hid ?_⟩
        rw [List.map_set, HL.out]
        exact tbl_yes hlt HAb.out
       case measure => simp [intOf]; omega
      ·have hne : ((a : Int) == (j : Int)) = false := by simp; omega
       have HNe := Lib.hid haj
       clear haj
       rcases h2 : decide ((j : Int) ∈ s2) with _ | _
       ·have HC2' := Lib.hid (HC2.out false h2.symm)
        have HAb : Hid (abv g a j) := Lib.hid (.inr (.inr fun h => of_decide_eq_false h2 ((HQ2.out _).2 h)))
        clear h2
        go_wp2_with first
         | (go_at_call 60; (with_reducible refine Calls.mono HC1'.out ?_); rintro e w9 ⟨rfl, hw9⟩; have hw92 := hw9.symm; subst hw92)
         | (go_at_call 60; (with_reducible refine Calls.mono HC2'.out ?_); rintro e w9 ⟨rfl, hw9⟩; have hw92 := hw9.symm; subst hw92)
         | (at_builtin; refine wpList_append_own_at _ rfl _ _ 34 rfl w.heap.size 3 i0 (.int .i64 0) 1 8 Tryz.underlying34 hi hz0 hz1 hz2 rfl (by decide) _ _ _ rfl (World.ownsRow.alloc (HOwn.out) _) ⟨wr.heap.size, 0, none⟩ 1 1 [.int .i64 (a : Int)] rfl rfl (cell_one_new _ _ _) (by simp [Value.oneCell']) (by unfold maxLen; omega) (by omega) (by have := HA.out.low.size; simp; omega) ?_; intro v' w4 hown' hgrow _ hblk; obtain ⟨g', cap', rfl⟩ := ownsRow_succ hown'; obtain ⟨ht4, hr4⟩ := HA.out.tab.put HLj.out (OwnInts.snoc hown') hgrow hblk; have HT4 := Lib.hid ht4; have e1 := hr4.cell j; have e2 := hr4.frozen j; have e3 := hr4.lt; have HGw := Lib.hid hgrow; have HBk := Lib.hid hblk; have HCell : w4.cell? ⟨bo, j, none⟩ = some (.slice Av (aboveTo g j a).length cv) := (by rw [e1]; simp [firsts, HLj.out]); clear ht4 hr4 hown' hgrow hblk e1)
        go_roundw
        case rel =>
         refine ⟨j + 1, _, by go_num, by omega, Lib.hid (HA.out.put HLj.out HGw.out HT4.out HBk.out), Lib.hid (HA.out.keep HLj.out HS2.out HAp2.out HGw.out), Lib.hid (HA.out.apart HLj.out HS2.out HAp2.out HBk.out), Lib.hid ?_⟩
         rw [List.map_set, HL.out]
         exact tbl_yes hlt HAb.out
        case measure => simp [intOf]; omega
       ·have HC2' := Lib.hid (HC2.out true h2.symm)
        have H2 := Lib.hid ((HQ2.out _).1 (of_decide_eq_true h2))
        clear h2
        go_wp2_with first
         | (go_at_call 60; (with_reducible refine Calls.mono HC1'.out ?_); rintro e w9 ⟨rfl, hw9⟩; have hw92 := hw9.symm; subst hw92)
         | (go_at_call 60; (with_reducible refine Calls.mono HC2'.out ?_); rintro e w9 ⟨rfl, hw9⟩; have hw92 := hw9.symm; subst hw92)
        go_roundw
        case rel =>
         refine ⟨j + 1, L2, by go_num, by omega, HA, HS2, HAp2, Lib.hid ?_⟩
         rw [← tbl_no (g := g) (a := a) (j := j) (fun h => by
          rcases h with h | h | h
          ·exact h H1.out
          ·exact HNe.out h
          ·exact h H2.out)]
         exact HL.out
        case measure => simp [intOf]; omega
    ·go_wp2_with fail
     go_roundw
     case rel =>
      refine ⟨a + 1, L2, by go_num, by omega, HA, Lib.hid ?_⟩
      rw [← tbl_turn, HL.out, show j = g.blocks.length from by omega]
     case measure => simp [intOf]; omega
  ·have hlen : L.length = g.blocks.length := by
    have := congrArg List.length HL0.out
    simpa [tbl] using this
   have HLen := Lib.hid hlen
   clear hlen
   go_wp2_with fail
   go_ret
   refine ⟨_, rfl, ?_, HA0.out.low⟩
   have h1 := HA0.out.tab.rows (fun p hp => by
    have : p.2 ∈ L.map (fun p => p.2) := List.mem_map_of_mem hp
    rw [HL0.out] at this
    unfold tbl at this
    obtain ⟨b, hb, e⟩ := List.mem_map.1 this
    rw [← e]
    have := aboveTo_len g b (if b < 0 then a + 1 else a)
    unfold lim
    have hx : (if b < 0 then a + 1 else a) ≤ 5001 := by split <;> omega
    omega) (by rw [HLen.out]; unfold lim; omega)
   rw [HL0.out, HLen.out] at h1
   have e : tbl g a 0 = (List.range g.blocks.length).map (fun b => aboveTo g b g.blocks.length) := by
    unfold tbl
    have : a = g.blocks.length := by omega
    subst this
    simp
   rw [e] at h1
   exact h1
end Go.Proofs.YtkmfdiboekoioaaGreat
