/- A pass of the reference 20 over all sets, as plain data. No condition. -/
import Derived.Test.YtkmfdiboekoioaaGreatCRfOn2
import Derived.Test.YtkmfdiboekoioaaGreatCRfGrow
import Derived.Test.YtkmfdiboekoioaaGreatCBack
set_option linter.unusedSimpArgs false
set_option linter.unusedVariables false
namespace Go.Proofs.YtkmfdiboekoioaaGreat
open Go.RowKit
theorem add_or (p : ISet) (N : Nat) (l : List Int) (z : Int) : p.add N l z = (p z || ISet.empty.add N l z) := by simp [ISet.add, ISet.empty]
theorem nodeUse_or (g : GraphP) (p : ISet) (n z : Int) : nodeUse g p n z = (p z || nodeUse g ISet.empty n z) := by
 cases hn : nodeAt g n with
 | none => rw [nodeUse_none hn, nodeUse_none hn]; simp [ISet.empty]
 | some y =>
  by_cases ho : y.op = 2
  ·rw [nodeUse_phi hn ho, nodeUse_phi hn ho]; simp [ISet.empty]
  ·rw [nodeUse_some hn ho, nodeUse_some hn ho, add_or, add_or p, add_or (ISet.empty.add _ _)]
   simp [Bool.or_assoc]
theorem uses_or (g : GraphP) : ∀ (l : List Int) (p : ISet) (z : Int), l.foldl (nodeUse g) p z = (p z || l.foldl (nodeUse g) ISet.empty z)
 | [], p, z => by simp [ISet.empty]
 | n :: l, p, z => by
  rw [List.foldl_cons, List.foldl_cons, uses_or g l, uses_or g l (nodeUse g ISet.empty n), nodeUse_or g p n]
  simp [Bool.or_assoc]
theorem listOf_add (p o : ISet) {N : Nat} (ho : Bounded N o) (z : Int) : p.add N (listOf N o) z = (p z || o z) := by
 simp only [ISet.add]
 congr 1
 cases hz : o z with
 | false =>
  rw [Bool.and_eq_false_iff]
  refine .inr ?_
  rw [← Bool.not_eq_true, List.contains_iff_mem, mem_listOf ho, hz]
  simp
 | true =>
  have := ho z hz
  simp only [Bool.and_eq_true, decide_eq_true_eq, List.contains_iff_mem, mem_listOf ho, hz, and_true]
  exact this
theorem inF_used (g : GraphP) (x : BlockP) {o : ISet} (ho : Bounded g.nodes.length o) : delTo x ((usedP g x).add g.nodes.length (listOf g.nodes.length o)) x.nodes.length = inF g x o := by
 have e : (usedP g x).add g.nodes.length (listOf g.nodes.length o) = usesTo g x ((o.add g.nodes.length x.args).add g.nodes.length (slotsOf g x.state)) x.nodes.length := by
  funext z
  rw [listOf_add _ _ ho]
  unfold usesTo usedP
  rw [List.take_length, uses_or g x.nodes ((o.add g.nodes.length x.args).add g.nodes.length (slotsOf g x.state)), add_or, add_or (o.add _ _), add_or o, add_or (List.foldl _ _ _)]
  cases o z <;> cases (List.foldl (nodeUse g) ISet.empty x.nodes z) <;> simp
 rw [e, ← inF_eq]
theorem diffTo_false {p q p' q' : ISet} {N : Nat} (hp : Bounded N p) (hq : Bounded N q) (hp' : Bounded N p') (hq' : Bounded N q') (h : diffTo p q p' q' N = false) : p = p' ∧ q = q' := by
 have key : ∀ z : Int, 0 ≤ z → z < (N : Int) → p z = p' z ∧ q z = q' z := fun z h0 h1 => by
  unfold diffTo at h
  have := List.any_eq_false.1 h z.toNat (List.mem_range.2 (by omega))
  rw [show ((z.toNat : Nat) : Int) = z by omega] at this
  simpa using this
 have out : ∀ {r : ISet}, Bounded N r → ∀ z : Int, ¬ (0 ≤ z ∧ z < (N : Int)) → r z = false := fun hr z hz => by
  exact Bool.eq_false_iff.2 fun h => hz (hr z h)
 constructor
 ·funext z
  by_cases hz : 0 ≤ z ∧ z < (N : Int)
  ·exact (key z hz.1 hz.2).1
  ·rw [out hp z hz, out hp' z hz]
 ·funext z
  by_cases hz : 0 ≤ z ∧ z < (N : Int)
  ·exact (key z hz.1 hz.2).2
  ·rw [out hq z hz, out hq' z hz]
theorem diffTo_true {p q : ISet} {N : Nat} (h : diffTo p q p q N = true) : False := by
 unfold diffTo at h
 obtain ⟨j, _, h⟩ := List.any_eq_true.1 h
 simp at h
theorem outF_at {g : GraphP} {I J : Sets} (h : ∀ j, I.at_ j = J.at_ j) (b : Int) (x : BlockP) : outF g I b x = outF g J b x := by
 unfold outF
 congr 1
 funext q n
 unfold outStep
 rw [h]
/-- How far a pass is, from I, O to I', O': c: something has changed. -/
structure Pass (g : GraphP) (I O : Sets) (b : Nat) (c : Bool) (I' O' : Sets) : Prop where
 gr : Grows g I' O'
 le : total g.nodes.length g.blocks.length I' O' ≤ total g.nodes.length g.blocks.length I O
 lt : c = true → total g.nodes.length g.blocks.length I' O' < total g.nodes.length g.blocks.length I O
 at_ : c = false → ∀ j, I'.at_ j = I.at_ j ∧ O'.at_ j = O.at_ j
 fix : c = false → ∀ j x, j < b → g.blocks[j]? = some x → I' j = some (inF g x (outF g I' j x)) ∧ O' j = some (outF g I' j x)
theorem Pass.start {g : GraphP} {I O : Sets} (h : Grows g I O) : Pass g I O 0 false I O := ⟨h, Nat.le_refl _, (fun h => by cases h), (fun _ _ => ⟨rfl, rfl⟩), (fun _ j x hj => by omega)⟩
theorem put_same {I : Sets} {b : Nat} {p : ISet} (h : I b = some p) : I.put b p = I := by
 funext j
 unfold Sets.put
 by_cases e : j = b
 ·subst e; simp [h]
 ·simp [e]
theorem Pass.step {g : GraphP} {I O I' O' : Sets} {b : Nat} {c : Bool} {x : BlockP} (h : Pass g I O b c I' O') (hx : g.blocks[b]? = some x) :
  Pass g I O (b + 1) (c || diffTo (inF g x (outF g I' b x)) (outF g I' b x) (I'.at_ b) (O'.at_ b) g.nodes.length) (I'.put b (inF g x (outF g I' b x))) (O'.put b (outF g I' b x)) := by
 have hb : b < g.blocks.length := (List.getElem?_eq_some_iff.1 hx).1
 have hle : total g.nodes.length g.blocks.length (I'.put b (inF g x (outF g I' b x))) (O'.put b (outF g I' b x)) ≤ total g.nodes.length g.blocks.length I' O' := by
  by_cases e : I' b = some (inF g x (outF g I' b x)) ∧ O' b = some (outF g I' b x)
  ·rw [put_same e.1, put_same e.2]; exact Nat.le_refl _
  ·exact Nat.le_of_lt (h.gr.falls hx hb e)
 refine ⟨h.gr.step hx, Nat.le_trans hle h.le, fun hc => ?_, fun hc => ?_, fun hc => ?_⟩
 ·rcases Bool.or_eq_true_iff.1 hc with hc | hc
  ·exact Nat.lt_of_le_of_lt hle (h.lt hc)
  ·refine Nat.lt_of_lt_of_le (h.gr.falls hx hb fun e => ?_) h.le
   rw [Sets.at_some e.1, Sets.at_some e.2] at hc
   exact diffTo_true hc
 all_goals
  obtain ⟨hc1, hc2⟩ := Bool.or_eq_false_iff.1 hc
  obtain ⟨e1, e2⟩ := diffTo_false (inF_bounded g x (outF_bounded g I' b x)) (outF_bounded g I' b x) (h.gr.boundI b) (h.gr.boundO b) hc2
  have q1 : ∀ j, (I'.put b (inF g x (outF g I' b x))).at_ j = I'.at_ j := fun j => by
   by_cases e : j = b
   ·subst e; rw [Sets.put_at, e1]
   ·unfold Sets.at_; rw [Sets.put_other _ _ e]
  have q2 : ∀ j, (O'.put b (outF g I' b x)).at_ j = O'.at_ j := fun j => by
   by_cases e : j = b
   ·subst e; rw [Sets.put_at, e2]
   ·unfold Sets.at_; rw [Sets.put_other _ _ e]
 ·exact fun j => ⟨(q1 j).trans (h.at_ hc1 j).1, (q2 j).trans (h.at_ hc1 j).2⟩
 ·intro j y hj hy
  rw [outF_at q1]
  by_cases e : j = b
  ·subst e
   rw [hx] at hy; injection hy with hy; subst hy
   simp [Sets.put]
  ·rw [Sets.put_other _ _ e, Sets.put_other _ _ e]
   exact h.fix hc1 j y (by omega) hy
theorem Pass.live {g : GraphP} {I O I' O' : Sets} (h : Pass g I O g.blocks.length false I' O') : LiveIs g I' O' :=
 h.gr.done fun b x hx => h.fix rfl b x (List.getElem?_eq_some_iff.1 hx).1 hx
end Go.Proofs.YtkmfdiboekoioaaGreat

/- A region that draws its order in a round of a loop over a function: as everywhere, where it defers nothing. No condition. -/
namespace Go.Proofs.YtkmfdiboekoioaaGreat.RegX
open Go
section
variable {P : Program} {ops : Array Oper} {Q : Exit → Act → World → Prop}
theorem wpIn_of_wp {o : Oper} {a : Act} {w : World} {K : Act → World → Prop} (l n : Nat) (hd : ∀ c, o.op ≠ .defer c) (h : o.wp P a w K Q) : o.wpIn (Fence.wide.inRound l) n P a w K Q := by
 refine ⟨fun _ _ => trivial, ?_⟩
 unfold Oper.wp at h
 rw [Oper.semAt_eq _ _ _ hd]
 generalize (execOp a.eval o).run P w = r at *
 cases r with
 | ok x w' =>
  cases x with
  | value v => exact h
  | skip => exact h
  | defer d => exact h
  | enter f args => exact ⟨fun h => by simp [Fence.wide, Fence.inRound] at h, CallsIn.inRound l (callsIn_wide.2 h)⟩
  | row row args =>
   refine ⟨fun h => by simp [Fence.wide, Fence.inRound] at h, fun c cs _ => ?_⟩
   obtain ⟨v, w2, hk, hs⟩ := h c cs
   exact ⟨v, w2, hk, stepsIn_wide.2 hs⟩
  | _ => exact h.elim
 | halt x w' =>
  cases x <;> first | exact h | exact h.elim

def noDefer (ops : Array Oper) : Bool := ops.all fun o => match o.op with | .defer _ => false | _ => true
theorem noDefer_spec (h : noDefer ops = true) {i : Nat} {o : Oper} (ho : ops[i]? = some o) : ∀ c, o.op ≠ .defer c := fun c e => by
 unfold noDefer at h
 have hm : o ∈ ops := Array.mem_of_getElem? ho
 have := (Array.all_eq_true'.1 h) o hm
 rw [e] at this; cases this

theorem wpOpIn_of_wpOp {i : Nat} {a : Act} {w : World} {K : Act → World → Prop} (l n : Nat) (hd : noDefer ops = true) (hlo : ¬ LetsOut Q) (h : wpOp P ops Q i K a w) : wpOpIn (Fence.wide.inRound l) n P ops Q i K a w := by
 unfold wpOp at h
 unfold wpOpIn
 split at h
 ·rename_i ho; rw [ho]; exact h
 ·rename_i o ho
  rw [ho]
  dsimp only
  split at h
  ·rename_i hw
   rw [if_pos hw]
   rcases h with h | ⟨_, h⟩
   ·exact wpIn_of_wp l n (noDefer_spec hd ho) h
   ·exact absurd h hlo
  ·rename_i hw
   rw [if_neg hw]
   exact ⟨fun _ _ => trivial, h⟩

theorem wpAnyIn_of_wpAny {md : Region.Mode} (l n : Nat) (hd : noDefer ops = true) (hlo : ¬ LetsOut Q) : ∀ (fuel : Nat) (listed : Array Bool) (a : Act) (w : World), wpAny P md ops Q fuel listed a w → wpAnyIn (Fence.wide.inRound l) n P md ops Q fuel listed a w
 | 0, _, _, _, h => h
 | fuel + 1, listed, a, w, h => ⟨h.1, fun i hi => wpOpIn_of_wpOp l n hd hlo (wpOp_mono (fun a' w' h' => wpAnyIn_of_wpAny l n hd hlo fuel _ a' w' h') (h.2 i hi))⟩

theorem wpIn_region_round {l n id : Nat} {a : Act} {w : World} (hm : P.follows .mixedOrders = true) (hd : noDefer ops = true) (hlo : ¬ LetsOut Q)
  (h : wpAny P .any ops Q ops.size (Array.replicate ops.size false) a w.drew) : (Code.region id ops true).wpIn (Fence.wide.inRound l) n P Q a w :=
 wpIn_region_any hm (wpAnyIn_of_wpAny l n hd hlo _ _ _ _ h)
theorem wpIn_region_roundH {l n id : Nat} {a : Act} {w : World} (S : World → Prop) (hm : P.follows .mixedOrders = true) (hd : noDefer ops = true) (hlo : ¬ LetsOut Q) (hS : S w.drew)
  (h : S w.drew → wpAnyH P .any ops Q S ops.size (Array.replicate ops.size false) a w.drew) : (Code.region id ops true).wpIn (Fence.wide.inRound l) n P Q a w :=
 wpIn_region_round hm hd hlo (wpAny_of_held _ _ _ _ (h hS))
end
end Go.Proofs.YtkmfdiboekoioaaGreat.RegX
