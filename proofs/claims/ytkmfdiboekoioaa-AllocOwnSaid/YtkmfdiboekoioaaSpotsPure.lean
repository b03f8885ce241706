/- What meets what, as a reckoning over sets: a block gone through from its end; what is told at each place. No condition. -/
import Derived.Test.YtkmfdiboekoioaaSpots1
namespace Go.Proofs.Ytkmfdiboekoioaa
open Go.RowKit

/-- One node with each of a set; all of a list with one another. -/
def star (R : Meets) (n : Int) (p : ISet) : Meets := fun x y => R x y || (x == n && p y) || (y == n && p x)
def clique (R : Meets) (l : List Int) : Meets := fun x y => R x y || (l.contains x && l.contains y && !(x == y))

theorem tellIn_false (l0 a : Int) (R : Meets) : ∀ (bs : List Int), bs.Nodup → tellIn false l0 a R bs = if l0 ∈ bs then both R a l0 else R
  | [], _ => by simp [tellIn]
  | b :: bs, hn => by
    obtain ⟨h1, h2⟩ := List.nodup_cons.1 hn
    have ih := fun R => tellIn_false l0 a R bs h2
    unfold tellIn at ih ⊢
    rw [List.foldl_cons, ih]
    by_cases e : b = l0
    · subst e
      simp [h1]
    · have e' : (b == l0) = false := by simp [e]
      have e2 : ¬ l0 = b := fun h => e h.symm
      simp [e', e2]
theorem tellIn_true (l0 a : Int) : ∀ (bs : List Int) (R : Meets), tellIn true l0 a R bs = fun x y => R x y || (x == a && bs.contains y) || (y == a && bs.contains x)
  | [], R => by funext x y; simp [tellIn]
  | b :: bs, R => by
    have ih := tellIn_true l0 a bs (both R a b)
    unfold tellIn at ih ⊢
    rw [List.foldl_cons]
    simp only [Bool.true_or, if_true] at ih ⊢
    rw [ih]
    funext x y
    simp only [both, List.contains_cons]
    cases R x y <;> cases x == a <;> cases y == a <;> cases x == b <;> cases y == b <;> cases bs.contains x <;> cases bs.contains y <;> rfl

theorem tellTo_false (n : Int) (l : List Int) (R : Meets) (hn : (n :: l).Nodup) : ∀ k, k ≤ l.length → tellTo false (n :: l) R (k + 1) = star R n (fun y => (l.take k).contains y)
  | 0, _ => by
    funext x y
    simp [tellTo, star, List.range_succ, tellIn]
  | k + 1, hk => by
    obtain ⟨a, ha⟩ := getE (l := l) (k := k) (by omega)
    have ha' : (n :: l)[k + 1]? = some a := by simpa using ha
    rw [tellTo_step false (n :: l) R (k + 1) a ha', tellTo_false n l R hn k (by omega), tellIn_false _ _ _ _ (hn.sublist (List.take_sublist _ _))]
    have hm : (n :: l).getD 0 0 ∈ List.take (k + 1) (n :: l) := by simp
    rw [if_pos hm, List.take_add_one, ha]
    funext x y
    simp only [both, star, List.getD_cons_zero, Option.toList_some, List.contains_append, List.contains_cons, List.contains_nil, Bool.or_false]
    cases R x y <;> cases x == n <;> cases y == n <;> cases x == a <;> cases y == a <;> cases (l.take k).contains x <;> cases (l.take k).contains y <;> rfl
theorem tell_star (n : Int) (l : List Int) (R : Meets) (p : ISet) (hn : (n :: l).Nodup) (hp : ∀ x, x ∈ l ↔ p x = true) : tell false (n :: l) R = star R n p := by
  unfold tell
  rw [List.length_cons, tellTo_false n l R hn l.length (Nat.le_refl _), List.take_length]
  congr 1
  funext y
  rw [Bool.eq_iff_iff, List.contains_iff_mem]
  exact hp y
theorem tellTo_true (l : List Int) (R : Meets) (hn : l.Nodup) : ∀ k, k ≤ l.length → tellTo true l R k = clique R (l.take k)
  | 0, _ => by
    funext x y
    simp [tellTo, clique]
  | k + 1, hk => by
    obtain ⟨a, ha⟩ := getE (l := l) (k := k) (by omega)
    rw [tellTo_step true l R k a ha, tellTo_true l R hn k (by omega), tellIn_true, List.take_add_one, ha]
    have hna : (l.take k).contains a = false := by
      rw [Bool.eq_false_iff, Ne, List.contains_iff_mem]
      intro hm
      obtain ⟨i, hi⟩ := List.mem_iff_getElem?.1 hm
      rw [List.getElem?_take] at hi
      split at hi
      · rename_i hik
        have := nodup_inj hn hi ha
        omega
      · cases hi
    funext x y
    simp only [clique, Option.toList_some, List.contains_append, List.contains_cons, List.contains_nil, Bool.or_false]
    by_cases hxa : x = a
    · subst hxa
      by_cases hya : y = x
      · subst hya; rw [hna]; simp
      · have h1 : (y == x) = false := by simp [hya]
        have h2 : (x == y) = false := by simp; exact fun e => hya e.symm
        rw [hna, h1, h2]; simp
    · have h1 : (x == a) = false := by simp [hxa]
      by_cases hya : y = a
      · subst hya
        rw [hna, h1]; simp
      · have h2 : (y == a) = false := by simp [hya]
        rw [h1, h2]; simp
theorem tell_clique (l : List Int) (R : Meets) (hn : l.Nodup) : tell true l R = clique R l := by
  unfold tell
  rw [tellTo_true l R hn l.length (Nat.le_refl _), List.take_length]

/-- Where one stands in a block: what is live there, the phis so far, what meets. -/
structure Spot where
  now : ISet
  phis : List Int
  meet : Meets
def spotStep (g : GraphP) (s : Spot) (n : Int) : Spot := match nodeAt g n with
  | none => s
  | some y => if y.op = 2 then ⟨s.now.del n, if n ∈ s.phis then s.phis else s.phis ++ [n], s.meet⟩
    else ⟨((s.now.del n).add g.nodes.length y.args).add g.nodes.length (slotsOf g y.state), s.phis, star s.meet n (s.now.del n)⟩
theorem spotStep_none {g : GraphP} {s : Spot} {n : Int} (h : nodeAt g n = none) : spotStep g s n = s := by unfold spotStep; rw [h]
theorem spotStep_phi {g : GraphP} {s : Spot} {n : Int} {y : NodeP} (h : nodeAt g n = some y) (ho : y.op = 2) : spotStep g s n = ⟨s.now.del n, if n ∈ s.phis then s.phis else s.phis ++ [n], s.meet⟩ := by unfold spotStep; rw [h]; simp only [if_pos ho]
theorem spotStep_other {g : GraphP} {s : Spot} {n : Int} {y : NodeP} (h : nodeAt g n = some y) (ho : y.op ≠ 2) : spotStep g s n = ⟨((s.now.del n).add g.nodes.length y.args).add g.nodes.length (slotsOf g y.state), s.phis, star s.meet n (s.now.del n)⟩ := by unfold spotStep; rw [h]; simp only [if_neg ho]
def spotFirst (g : GraphP) (I O : Sets) (b : Nat) (x : BlockP) (R : Meets) : Spot :=
  ⟨((ISet.empty.add g.nodes.length (listOf g.nodes.length (O.at_ b))).add g.nodes.length x.args).add g.nodes.length (slotsOf g x.state), listOf g.nodes.length (I.at_ b), R⟩
/-- A block's nodes, as they came from the end. -/
def spotTo (g : GraphP) (I O : Sets) (b : Nat) (x : BlockP) (R : Meets) (pre : List Int) : Spot := pre.foldl (spotStep g) (spotFirst g I O b x R)
theorem spotTo_snoc (g : GraphP) (I O : Sets) (b : Nat) (x : BlockP) (R : Meets) (pre : List Int) (n : Int) : spotTo g I O b x R (pre ++ [n]) = spotStep g (spotTo g I O b x R pre) n := by
  unfold spotTo; rw [List.foldl_append]; rfl
def meetBlock (g : GraphP) (I O : Sets) (b : Nat) (x : BlockP) (R : Meets) : Meets :=
  clique (spotTo g I O b x R x.nodes.reverse).meet (spotTo g I O b x R x.nodes.reverse).phis
def meetTo (g : GraphP) (I O : Sets) (k : Nat) : Meets := (List.range k).foldl (fun R b => match g.blocks[b]? with | some x => meetBlock g I O b x R | none => R) (fun _ _ => false)
def meetAll (g : GraphP) (I O : Sets) : Meets := meetTo g I O g.blocks.length
theorem meetTo_step (g : GraphP) (I O : Sets) (k : Nat) (x : BlockP) (h : g.blocks[k]? = some x) : meetTo g I O (k + 1) = meetBlock g I O k x (meetTo g I O k) := by
  unfold meetTo
  rw [List.range_succ, List.foldl_append]
  simp only [List.foldl_cons, List.foldl_nil, h]
theorem nodeAt_range {g : GraphP} {n : Int} : (nodeAt g n).isSome = true ↔ 0 ≤ n ∧ n < (g.nodes.length : Int) := by
  unfold nodeAt
  by_cases h : n < 0
  · rw [if_pos h]; simp; omega
  · rw [if_neg h]
    obtain ⟨k, rfl⟩ := Int.eq_ofNat_of_zero_le (show 0 ≤ n by omega)
    rw [Int.toNat_natCast]
    simp
/-- What holds of a place: all within the nodes, the phis once each. -/
structure SpotOk (g : GraphP) (s : Spot) : Prop where
  now : Bounded g.nodes.length s.now
  one : s.phis.Nodup
  phis : ∀ x ∈ s.phis, 0 ≤ x ∧ x < (g.nodes.length : Int)
theorem SpotOk.step {g : GraphP} {s : Spot} (h : SpotOk g s) (n : Int) : SpotOk g (spotStep g s n) := by
  cases hn : nodeAt g n with
  | none => rw [spotStep_none hn]; exact h
  | some y =>
    have hr := nodeAt_range.1 (show (nodeAt g n).isSome = true by rw [hn]; rfl)
    by_cases ho : y.op = 2
    · rw [spotStep_phi hn ho]
      refine ⟨del_bounded n h.now, ?_, fun x hx => ?_⟩
      · show (if n ∈ s.phis then s.phis else s.phis ++ [n]).Nodup
        split
        · exact h.one
        · rename_i hm
          rw [List.nodup_append]
          refine ⟨h.one, by simp, fun a ha b hb => ?_⟩
          simp only [List.mem_singleton] at hb
          subst hb
          exact fun e => hm (e ▸ ha)
      · have hx' : x ∈ (if n ∈ s.phis then s.phis else s.phis ++ [n]) := hx
        split at hx'
        · exact h.phis x hx'
        · rcases List.mem_append.1 hx' with hx' | hx'
          · exact h.phis x hx'
          · simp only [List.mem_singleton] at hx'; subst hx'; exact hr
    · rw [spotStep_other hn ho]
      exact ⟨add_bounded _ (add_bounded _ (del_bounded n h.now)), h.one, h.phis⟩
theorem SpotOk.first {g : GraphP} {I O : Sets} (hI : ∀ b, Bounded g.nodes.length (I.at_ b)) (b : Nat) (x : BlockP) (R : Meets) : SpotOk g (spotFirst g I O b x R) :=
  ⟨add_bounded _ (add_bounded _ (add_bounded _ (empty_bounded _))), listOf_nodup _ _, fun x hx => (hI b) x ((mem_listOf (hI b) x).1 hx)⟩
theorem SpotOk.to {g : GraphP} {I O : Sets} (hI : ∀ b, Bounded g.nodes.length (I.at_ b)) (b : Nat) (x : BlockP) (R : Meets) (pre : List Int) : SpotOk g (spotTo g I O b x R pre) := by
  unfold spotTo
  have : ∀ (l : List Int) (s : Spot), SpotOk g s → SpotOk g (l.foldl (spotStep g) s) := fun l => by
    induction l with
    | nil => exact fun s h => h
    | cons n l ih => exact fun s h => ih _ (h.step n)
  exact this _ _ (SpotOk.first hI b x R)
/-- The phis are at most as many as the nodes. -/
theorem bounded_len {N : Nat} {l : List Int} (h1 : l.Nodup) (h2 : ∀ x ∈ l, 0 ≤ x ∧ x < (N : Int)) : l.length ≤ N := by
  have := nodup_le l ((List.range N).map (fun (i : Nat) => (i : Int))) h1 (fun x hx => by
    obtain ⟨a, b⟩ := h2 x hx
    obtain ⟨k, rfl⟩ := Int.eq_ofNat_of_zero_le a
    exact List.mem_map.2 ⟨k, List.mem_range.2 (by omega), rfl⟩)
  simpa using this
end Go.Proofs.Ytkmfdiboekoioaa
