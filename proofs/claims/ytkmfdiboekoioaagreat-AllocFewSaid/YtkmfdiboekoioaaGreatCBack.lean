/- slices.Backward over ints, as an iterator that a loop ranges over. Conditions: the loop's body keeps the cells of the blocks S, in which the slice lies. -/
import Derived.Test.YtkmfdiboekoioaaGreatCTold
import Derived.RangeFuncNested
import Derived.RangeFuncBound
import Derived.RangeFuncCalls
import Derived.RangeFuncLeaves
import Derived.RangeFuncBox
import Derived.Shelf.Abstract
import Derived.Shelf.RegionOpen
import Derived.WalkKit
import Derived.OwnWalkIn
import Derived.TacticsInMore
import Derived.LoopNIn
import Derived.LoopIn
set_option linter.unusedSimpArgs false
set_option linter.unusedVariables false
namespace Go.Proofs.YtkmfdiboekoioaaGreat
open Go.RowKit Go.Shelf
attribute [local go_sem] Oper.semAt_some

/-- What has come when k rounds are over, from the end. -/
def backTo (zs : List Int) (k : Nat) : List (Nat × Int) := (List.range k).map (fun j => (zs.length - 1 - j, zs.getD (zs.length - 1 - j) 0))
theorem backTo_succ (zs : List Int) (k : Nat) : backTo zs (k + 1) = backTo zs k ++ [(zs.length - 1 - k, zs.getD (zs.length - 1 - k) 0)] := by simp [backTo, List.range_succ]
theorem backTo_length (zs : List Int) (k : Nat) : (backTo zs k).length = k := by simp [backTo]
theorem backTo_snd (zs : List Int) : (backTo zs zs.length).map (fun p => p.2) = zs.reverse := by
 apply List.ext_getElem
 ·simp [backTo]
 ·intro i h1 h2
  simp only [List.length_reverse] at h2
  have h3 : zs.length - 1 - i < zs.length := by omega
  simp [backTo, List.getElem_reverse, List.getD_eq_getElem?_getD, List.getElem?_eq_getElem h3]

/-- Cells at the blocks S read as they did. -/
def KeepS (S : Nat → Prop) (W W' : World) : Prop := ∀ (p : Addr) (v : Value), S p.block → W.cell? p = some v → W'.cell? p = some v
section
variable {S : Nat → Prop} {A B C : World}
theorem KeepS.refl (S : Nat → Prop) (W : World) : KeepS S W W := fun _ _ _ h => h
theorem KeepS.trans (h : KeepS S A B) (k : KeepS S B C) : KeepS S A C := fun p v hp hv => k p v hp (h p v hp hv)
theorem KeepS.grown {row : Option Nat} (hg : A.grownBy B row) (hr : ∀ r, row = some r → (∃ o : Obj, A.heap[r]? = some o ∧ o.isCells = false) ∨ ¬ S r) : KeepS S A B := fun p v hp hv => by
 refine hg.cell hv (fun e => ?_)
 rcases hr p.block e.symm with ⟨o, ho, hc⟩ | hn
 ·unfold World.cell? at hv
  rw [ho] at hv
  cases o <;> first | (cases hc; done) | cases hv
 ·exact hn hp
theorem KeepS.putObj (W : World) (l : Nat) (o o' : Obj) (h : W.heap[l]? = some o) (hc : o.isCells = false) : KeepS S W (W.putObj l o') :=
 KeepS.grown (grownBy_putObj' W l o') (fun r e => .inl ⟨o, by injection e with e; rw [← e]; exact h, hc⟩)
theorem IntsV.keepS {n : Nat} {v : Value} {l : List Int} (h : IntsV A n v l) (hk : KeepS S A B) (hS : ∀ k, k < n → S k) : IntsV B n v l := by
 obtain ⟨X, c, hv, hc, hl, h⟩ := h
 refine ⟨X, c, hv, hc, hl, fun h0 => ?_⟩
 obtain ⟨b, off, hA, hb, h⟩ := h h0
 exact ⟨b, off, hA, hb, fun j x hx => hk _ _ (hS b hb) (h j x hx)⟩
end

set_option maxRecDepth 100000 in
set_option maxHeartbeats 2000000 in
theorem backward1_in (F : Fence) (n : Nat) (h8 : F.fn 145) (hro : F.round = none) (hn : 1 ≤ n) (l Bs n₀ : Nat) (S : Nat → Prop) (hS : ∀ k, k < n₀ → S k) (hSB : S Bs) (sv : Value) (zs : List Int) (J Jx : List (Nat × Int) → World → Prop)
  (hY : ∀ pre x W, J pre W → pre.length < zs.length → YieldAt F (n - 1) Tryz.prog l #[.int .i64 (x.1 : Int), .int .i64 x.2] W fun e W' =>
   (e = .returned (.bool true) ∧ J (pre ++ [x]) W' ∧ KeepS S W W') ∨ (e = .returned (.bool false) ∧ Jx (pre ++ [x]) W'))
  (W : World) (hBs : W.cell? ⟨Bs, 0, none⟩ = some sv) (hI : IntsV W n₀ sv zs) (h0 : J [] W) :
  CallsIn F n Tryz.prog 145 #[.func (.yield l) #[] #[], .pointer (some ⟨Bs, 0, none⟩)] W fun e W' => (∃ v, e = .returned v) ∧
   (J (backTo zs zs.length) W' ∨ (∃ k, k ≤ zs.length ∧ Jx (backTo zs k) W')) := by
 have HI := Lib.hid hI
 obtain ⟨A, c, rfl, _, hlim, _⟩ := hI
 have hl0 : zs.length ≤ 17592186044416 := by unfold lim at hlim; omega
 have HBs := Lib.hid hBs
 refine callsIn_of_wp Tryz.func145 rfl h8 ?_ hro
 simp only [Tryz.ntmps145, List.size_toArray, List.length_cons, List.length_nil, Nat.reduceAdd, Nat.reduceSub, Array.replicate_succ, Array.replicate_zero, List.push_toArray, List.append_toArray, List.nil_append, List.cons_append]
 gi_wp2
 clear hBs
 gi_loopw [3] (fun i wr => ∃ k : Nat, k ≤ zs.length ∧ i = .int .i64 ((zs.length : Int) - 1 - k) ∧ J (backTo zs k) wr ∧ KeepS S W wr)
  (fun i _ => (intOf i + 1).toNat)
 case atStart => exact ⟨0, Nat.zero_le _, by go_num, h0, KeepS.refl _ _⟩
 case round =>
  obtain ⟨k, hk, rfl, hJs, hnx⟩ := hrel
  by_cases hlt : k < zs.length
  ·obtain ⟨q, hq⟩ : ∃ q : Nat, q + k + 1 = zs.length := ⟨zs.length - 1 - k, by omega⟩
   have hqe : (zs.length : Int) - 1 - (k : Int) = (q : Int) := by omega
   obtain ⟨b, off, rfl, hbB, hp⟩ := (HI.out.keepS hnx hS).cells (k := q) (by omega)
   obtain ⟨x, hx⟩ := getE (l := zs) (k := q) (by omega)
   have f0 := hp q x hx
   have f1 := hnx ⟨Bs, 0, none⟩ _ hSB HBs.out
   have hx0 : (zs.length - 1 - k, zs.getD (zs.length - 1 - k) 0) = (q, x) := by
    have : zs.length - 1 - k = q := by omega
    rw [this]; simp [hx]
   rw [hqe]
   obtain ⟨fn, tmps, assign, body, hy, hR⟩ := hY _ (q, x) wr hJs (by rw [backTo_length]; exact hlt)
   dsimp only at hy
   clear hp hx hqe
   gi_wp2
   refine hR.mono ?_
   rintro e W3 (⟨rfl, hJ3, hk3⟩ | ⟨rfl, hJx3⟩)
   ·gi_wp2
    go_roundw
    case rel => exact ⟨k + 1, by omega, by go_num, by rw [backTo_succ, hx0]; exact hJ3, hnx.trans hk3⟩
    case measure => simp [intOf]
   ·gi_wp2
    refine bodyPost_ret (results_none rfl _ _ _) rfl ?_
    exact ⟨⟨_, rfl⟩, .inr ⟨k + 1, by omega, by rw [backTo_succ, hx0]; exact hJx3⟩⟩
  ·obtain rfl : k = zs.length := by omega
   gi_wp2
   go_end0
   exact ⟨⟨_, rfl⟩, .inl hJs⟩

theorem backward_stops (F : Fence) (n : Nat) (h7 : F.fn 145) (hro : F.round = none) (hn : 1 ≤ n) (Bs n₀ : Nat) (S : Nat → Prop) (hS : ∀ k, k < n₀ → S k) (hSB : S Bs) (sv : Value) (zs : List Int) (w : World) (hBs : Bs < w.heap.size) (hn₀ : n₀ ≤ w.heap.size)
  (hc : w.cell? ⟨Bs, 0, none⟩ = some sv) (hI : IntsV w n₀ sv zs) :
  SeqStopsK F n Tryz.prog 145 #[.pointer (some ⟨Bs, 0, none⟩)] (fun x : Nat × Int => #[Value.int .i64 (x.1 : Int), Value.int .i64 x.2]) (KeepS S) (fun ys => ys = backTo zs zs.length) (fun pre => ∃ k, k ≤ zs.length ∧ pre = backTo zs k) zs.length w := fun l J Jx W hW _ _ hY h0 => by
 have hc' := (hW.cell (p := ⟨Bs, 0, none⟩) hBs).trans hc
 refine (backward1_in F n h7 hro hn l Bs n₀ S hS hSB sv zs J Jx hY W hc' (hI.keep (Same.of_below (hW.mono hn₀))) h0).mono ?_
 rintro e W' ⟨he, hj | ⟨k, hk, hj⟩⟩
 ·exact ⟨he, .inl ⟨_, rfl, hj⟩⟩
 ·exact ⟨he, .inr ⟨_, ⟨k, hk, rfl⟩, hj⟩⟩

set_option maxHeartbeats 1000000 in
theorem backward_in (F : Fence) (n : Nat) (h5 : F.fn 120) (hro : F.round = none) (a : Option Addr) (len cap : Nat) (w : World) :
  CallsIn F n Tryz.prog 120 #[.slice a len cap] w fun e w' => e = .returned (.func (.func 145) #[] #[.pointer (some ⟨w.heap.size, 0, none⟩)]) ∧ w' = w.alloc (.cells #[.slice a len cap] 34) := by
 refine callsIn_of_wp Tryz.func120 rfl h5 ?_ hro
 simp only [Tryz.ntmps120, List.size_toArray, List.length_cons, List.length_nil, Nat.reduceAdd, Nat.reduceSub, Array.replicate_succ, Array.replicate_zero, List.push_toArray, List.append_toArray, List.nil_append, List.cons_append]
 gi_wp2
 go_ret
 exact ⟨rfl, rfl⟩
end Go.Proofs.YtkmfdiboekoioaaGreat
