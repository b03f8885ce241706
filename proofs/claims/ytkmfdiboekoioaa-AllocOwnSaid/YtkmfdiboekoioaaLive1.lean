/- The walks of the small functions of package live: the slots of a state, the putting of numbers into a set, the args of phis. Conditions: each slice within the reach of the model. -/
import Derived.Test.YtkmfdiboekoioaaSize
import Derived.Test.YtkmfdiboekoioaaMaps2
import Derived.BigQuiet
import Derived.Deep.LoopGhost
namespace Go.Proofs.Ytkmfdiboekoioaa
open Go.RowKit

def slotsOf (g : GraphP) (s : Int) : List Int := if s < 0 then [] else match g.states[s.toNat]? with | some x => x.slots | none => []
theorem slotsOf_some {g : GraphP} {k : Nat} {y : StateP} (h : g.states[k]? = some y) : slotsOf g (k : Int) = y.slots := by
  unfold slotsOf; rw [if_neg (by omega), Int.toNat_natCast, h]
theorem slotsOf_none {g : GraphP} {k : Nat} (h : g.states.length ≤ k) : slotsOf g (k : Int) = [] := by
  unfold slotsOf; rw [if_neg (by omega), Int.toNat_natCast, List.getElem?_eq_none h]
def SlotsIs (g : GraphP) (s : Int) (w : World) (e : Ending) (w' : World) : Prop := ∃ v, e = .returned v ∧ IntsV w' w.heap.size v (slotsOf g s) ∧ Below w.heap.size w w'

set_option maxHeartbeats 1000000 in
theorem slots_any (x : GVals) (g : GraphP) (s : Int) (w : World) (hg : GraphV w w.heap.size x g) : Calls Try.prog 37 #[gval g x, .int .i64 s] w (SlotsIs g s w) := by
  obtain ⟨vn, vb, vs⟩ := x
  obtain ⟨_, _, hs⟩ := hg
  obtain ⟨A, c, rfl, _hc, hl, hs⟩ := hs
  have hlim : g.states.length ≤ 17592186044416 := by unfold lim at hl; omega
  have HS := Lib.hid hs; clear hs hl
  unfold gval
  dsimp only
  by_cases h0 : s < 0
  · have hfin : slotsOf g s = [] := by simp [slotsOf, h0]
    have HF := Lib.hid hfin; clear hfin
    go_enter Try.func37, Try.ntmps37
    go_wp2
    go_ret
    exact ⟨_, rfl, by rw [HF.out]; exact IntsV.nil _ _, (Below.refl _ _).alloc (Nat.le_refl _) _⟩
  · obtain ⟨k, rfl⟩ := Int.eq_ofNat_of_zero_le (Int.not_lt.1 h0)
    by_cases h1 : k < g.states.length
    · obtain ⟨b, off, rfl, hbB, hp⟩ := HS.out (by omega)
      obtain ⟨y, hy⟩ := getE h1
      have b1 : Below w.heap.size w (w.alloc (.cells #[.int .i64 g.fn, .int .i64 g.pc, .int .i64 g.slots, vn, vb, .slice (some ⟨b, off, none⟩) g.states.length c] 26)) := (Below.refl _ _).alloc (Nat.le_refl _) _
      obtain ⟨f0, ⟨v1, f1, hv1⟩⟩ := (hp k y hy).keep (Same.of_below b1) hbB
      have hfin := slotsOf_some hy
      have HF := Lib.hid hfin; clear hfin
      have HV := Lib.hid hv1
      obtain ⟨A1, c1, rfl, _, _, _⟩ := hv1
      clear hp HS hy
      go_enter Try.func37, Try.ntmps37
      go_wp2
      go_ret
      exact ⟨_, rfl, by rw [HF.out]; exact HV.out, b1⟩
    · have hfin := slotsOf_none (g := g) (k := k) (by omega)
      have HF := Lib.hid hfin; clear hfin
      go_enter Try.func37, Try.ntmps37
      go_wp2
      go_ret
      exact ⟨_, rfl, by rw [HF.out]; exact IntsV.nil _ _, (Below.refl _ _).alloc (Nat.le_refl _) _⟩

/-- A set of numbers as a map whose values are 1. -/
abbrev ISet := Int → Bool
def setF (p : ISet) : FMap := fun x => if p x then some 1 else none
def SetM (w : World) (r : Nat) (p : ISet) : Prop := IMap w r (setF p)
def ISet.add (p : ISet) (N : Nat) (l : List Int) : ISet := fun x => p x || (decide (0 ≤ x ∧ x < N) && l.contains x)
theorem setF_put (p : ISet) (x : Int) : (setF p).put x 1 = setF (fun z => p z || z == x) := by
  funext z
  simp only [FMap.put, setF]
  by_cases h : z = x
  · simp [h]
  · simp [h]
theorem add_yes (p : ISet) (N : Nat) (l : List Int) (k : Nat) (x : Int) (hx : l[k]? = some x) (h0 : 0 ≤ x) (h1 : x < N) : p.add N (l.take (k + 1)) = fun z => p.add N (l.take k) z || z == x := by
  funext z
  rw [List.take_add_one, hx]
  simp only [ISet.add, Option.toList, List.contains_append]
  by_cases h : z = x
  · subst h; simp [h0, h1]
  · have hb : (z == x) = false := by simp [h]
    simp [hb, h]
theorem add_no (p : ISet) (N : Nat) (l : List Int) (k : Nat) (x : Int) (hx : l[k]? = some x) (h : ¬ (0 ≤ x ∧ x < N)) : p.add N (l.take (k + 1)) = p.add N (l.take k) := by
  funext z
  rw [List.take_add_one, hx]
  simp only [ISet.add, Option.toList, List.contains_append]
  by_cases q : z = x
  · subst q; simp only [decide_eq_false h, Bool.false_and]
  · have hb : (z == x) = false := by simp [q]
    simp [hb, q]
theorem add_nil (p : ISet) (N : Nat) : p.add N [] = p := by funext z; simp [ISet.add]

def PutIs (r : Nat) (q : ISet) (w : World) (e : Ending) (w' : World) : Prop := e = .returned (.tuple #[]) ∧ SetM w' r q ∧ w.grownBy w' (some r)

theorem grown_cell {w w' : World} {r : Nat} {p q : ISet} (h : SetM w r p) (h' : SetM w' r q) (hg : w.grownBy w' (some r)) {a : Addr} {v : Value} (hc : w.cell? a = some v) : w'.cell? a = some v :=
  (cell_mapturn h (.inr ⟨_, h'⟩) hg (World.block_lt_of_cell? w a hc)).trans hc
theorem grown_ints {w w' : World} {r : Nat} {p q : ISet} (h : SetM w r p) (h' : SetM w' r q) (hg : w.grownBy w' (some r)) {B : Nat} {v : Value} {l : List Int} (hB : B ≤ w.heap.size) (hl : IntsV w B v l) : IntsV w' B v l :=
  hl.keep fun _ ha => cell_mapturn h (.inr ⟨_, h'⟩) hg (by omega)

set_option maxHeartbeats 1000000 in
theorem put_any (w : World) (r : Nat) (p : ISet) (v : Value) (l : List Int) (bx : Nat) (An : Option Addr) (N cn : Nat) (hset : SetM w r p) (hl : IntsV w w.heap.size v l) (hbox : w.cell? ⟨bx, 3, none⟩ = some (.slice An N cn)) (hN : N ≤ lim) :
    Calls Try.prog 44 #[.map (some r), v, .pointer (some ⟨bx, 0, none⟩)] w (PutIs r (p.add N l) w) := by
  have HL := Lib.hid hl
  obtain ⟨A, c, rfl, _hc, hlc, hl⟩ := hl
  have hlim : l.length ≤ 17592186044416 := by unfold lim at hlc; omega
  have hNl : N ≤ 17592186044416 := by unfold lim at hN; omega
  have HW := Lib.hid hl; clear hl hN hlc
  have HSet := Lib.hid hset; clear hset
  have HBox := Lib.hid hbox; clear hbox
  go_enter Try.func44, Try.ntmps44
  go_wp2
  go_loopw [6, 9] (fun _ i wr => ∃ k : Nat, k ≤ l.length ∧ i = .int .i64 k ∧ SetM wr r (p.add N (l.take k)) ∧ w.grownBy wr (some r)) (fun _ i _ => l.length - (intOf i).toNat)
  case atStart => exact ⟨0, Nat.zero_le _, rfl, by rw [List.take_zero, add_nil]; exact HSet.out, World.grownBy.refl _ _⟩
  case round =>
    obtain ⟨k, hk, rfl, hs, hg⟩ := hrel
    have hbox := grown_cell HSet.out hs hg HBox.out
    have HS := Lib.hid hs
    have HG := Lib.hid hg
    by_cases hlt : k < l.length
    · obtain ⟨b, off, rfl, hbB, hp⟩ := HW.out (by omega)
      obtain ⟨x, hx⟩ := getE hlt
      have f0 := grown_cell HSet.out hs hg (hp k x hx)
      have HX := Lib.hid hx
      clear hp HW hx hs hg
      by_cases h0 : 0 ≤ x
      · by_cases h1 : x < (N : Int)
        · obtain ⟨w1, hrun, hm1, hg1, hs1⟩ := IMap.update (P := Try.prog) HS.out Try.underlying79 Try.underlying3 x 1
          have HM := Lib.hid hm1
          clear hm1 hs1
          go_wp2
          go_roundw
          case rel => exact ⟨k + 1, by omega, by go_num, by rw [add_yes p N l k x HX.out h0 h1]; have := HM.out; rwa [setF_put] at this, HG.out.trans hg1⟩
          case measure => simp [intOf]; omega
        · go_wp2
          go_roundw
          case rel => exact ⟨k + 1, by omega, by go_num, by rw [add_no p N l k x HX.out (by omega)]; exact HS.out, HG.out⟩
          case measure => simp [intOf]; omega
      · go_wp2
        go_roundw
        case rel => exact ⟨k + 1, by omega, by go_num, by rw [add_no p N l k x HX.out (by omega)]; exact HS.out, HG.out⟩
        case measure => simp [intOf]; omega
    · go_wp2
      go_end0
      exact ⟨rfl, by have := HS.out; rwa [List.take_of_length_le (by omega)] at this, HG.out⟩
end Go.Proofs.Ytkmfdiboekoioaa
