/- What is live where, as a reckoning over sets: its monotony, what a pass brings, the measure that falls. No condition. -/
import Derived.Test.YtkmfdiboekoioaaGreatCLive3
import Derived.Test.YtkmfdiboekoioaaGreatCMaps
import Derived.WideKeyEntry
set_option linter.unusedSimpArgs false
set_option linter.unusedVariables false
namespace Go.Proofs.YtkmfdiboekoioaaGreat
open Go.RowKit

def ISet.le (p q : ISet) : Prop := ∀ x, p x = true → q x = true
theorem ISet.le_refl (p : ISet) : p.le p := fun _ h => h
theorem ISet.le_trans {p q r : ISet} (h : p.le q) (h' : q.le r) : p.le r := fun x hx => h' x (h x hx)
theorem ISet.le_antisymm {p q : ISet} (h : p.le q) (h' : q.le p) : p = q := by
 funext x
 cases hp : p x
 ·cases hq : q x
  ·rfl
  ·rw [h' x hq] at hp; cases hp
 ·exact (h x hp).symm
def ISet.empty : ISet := fun _ => false
theorem ISet.empty_le (p : ISet) : ISet.empty.le p := fun _ h => by cases h
def ISet.del (p : ISet) (n : Int) : ISet := fun z => p z && !(z == n)
theorem setF_del (p : ISet) (n : Int) : (setF p).del n = setF (p.del n) := by
 funext z
 simp only [FMap.del, setF, ISet.del]
 by_cases h : z = n
 ·simp [h]
 ·simp [h]

theorem add_mono {p q : ISet} (N : Nat) {l m : List Int} (h : p.le q) (hl : ∀ x, x ∈ l → x ∈ m) : (p.add N l).le (q.add N m) := by
 intro x hx
 simp only [ISet.add, Bool.or_eq_true, Bool.and_eq_true, decide_eq_true_eq, List.contains_iff_mem] at hx ⊢
 rcases hx with hx | ⟨hb, hx⟩
 ·exact .inl (h x hx)
 ·exact .inr ⟨hb, hl x hx⟩
theorem add_bounded {p : ISet} {N : Nat} (l : List Int) (h : Bounded N p) : Bounded N (p.add N l) := by
 intro x hx
 simp only [ISet.add, Bool.or_eq_true, Bool.and_eq_true, decide_eq_true_eq] at hx
 rcases hx with hx | ⟨hb, _⟩
 ·exact h x hx
 ·exact hb
theorem del_mono {p q : ISet} (n : Int) (h : p.le q) : (p.del n).le (q.del n) := by
 intro x hx
 simp only [ISet.del, Bool.and_eq_true] at hx ⊢
 exact ⟨h x hx.1, hx.2⟩
theorem del_bounded {p : ISet} {N : Nat} (n : Int) (h : Bounded N p) : Bounded N (p.del n) := by
 intro x hx
 simp only [ISet.del, Bool.and_eq_true] at hx
 exact h x hx.1
theorem empty_bounded (N : Nat) : Bounded N ISet.empty := fun _ h => by cases h
theorem listOf_empty (N : Nat) : listOf N ISet.empty = [] := by simp [listOf, ISet.empty]

/-- What is used at a node that is no phi. -/
def nodeUse (g : GraphP) (p : ISet) (n : Int) : ISet := match nodeAt g n with
 | some y => if y.op = 2 then p else (p.add g.nodes.length y.args).add g.nodes.length (slotsOf g y.state)
 | none => p
theorem nodeUse_mono (g : GraphP) {p q : ISet} (n : Int) (h : p.le q) : (nodeUse g p n).le (nodeUse g q n) := by
 unfold nodeUse
 split
 ·split
  ·exact h
  ·exact add_mono _ (add_mono _ h fun _ h => h) fun _ h => h
 ·exact h
theorem nodeUse_bounded (g : GraphP) {p : ISet} (n : Int) (h : Bounded g.nodes.length p) : Bounded g.nodes.length (nodeUse g p n) := by
 unfold nodeUse
 split
 ·split
  ·exact h
  ·exact add_bounded _ (add_bounded _ h)
 ·exact h
theorem nodeUse_none {g : GraphP} {p : ISet} {n : Int} (h : nodeAt g n = none) : nodeUse g p n = p := by unfold nodeUse; rw [h]
theorem nodeUse_phi {g : GraphP} {p : ISet} {n : Int} {y : NodeP} (h : nodeAt g n = some y) (ho : y.op = 2) : nodeUse g p n = p := by unfold nodeUse; rw [h]; simp only [if_pos ho]
theorem nodeUse_some {g : GraphP} {p : ISet} {n : Int} {y : NodeP} (h : nodeAt g n = some y) (ho : y.op ≠ 2) : nodeUse g p n = (p.add g.nodes.length y.args).add g.nodes.length (slotsOf g y.state) := by unfold nodeUse; rw [h]; simp only [if_neg ho]

def usesTo (g : GraphP) (x : BlockP) (p : ISet) (k : Nat) : ISet := (x.nodes.take k).foldl (nodeUse g) p
def delTo (x : BlockP) (p : ISet) (k : Nat) : ISet := (x.nodes.take k).foldl ISet.del p
theorem usesTo_step (g : GraphP) (x : BlockP) (p : ISet) (k : Nat) (n : Int) (h : x.nodes[k]? = some n) : usesTo g x p (k + 1) = nodeUse g (usesTo g x p k) n := by
 unfold usesTo; rw [List.take_add_one, h, List.foldl_append]; rfl
theorem delTo_step (x : BlockP) (p : ISet) (k : Nat) (n : Int) (h : x.nodes[k]? = some n) : delTo x p (k + 1) = (delTo x p k).del n := by
 unfold delTo; rw [List.take_add_one, h, List.foldl_append]; rfl
/-- What is live at a block's beginning, p being so at its end. -/
def inF (g : GraphP) (x : BlockP) (p : ISet) : ISet :=
 x.nodes.foldl ISet.del (x.nodes.foldl (nodeUse g) ((p.add g.nodes.length x.args).add g.nodes.length (slotsOf g x.state)))
theorem inF_eq (g : GraphP) (x : BlockP) (p : ISet) : inF g x p = delTo x (usesTo g x ((p.add g.nodes.length x.args).add g.nodes.length (slotsOf g x.state)) x.nodes.length) x.nodes.length := by
 unfold inF delTo usesTo; rw [List.take_length]
theorem foldl_mono {f : ISet → Int → ISet} (hf : ∀ p q n, p.le q → (f p n).le (f q n)) : ∀ (l : List Int) {p q : ISet}, p.le q → (l.foldl f p).le (l.foldl f q)
 | [], _, _, h => h
 | n :: l, _, _, h => foldl_mono hf l (hf _ _ n h)
theorem foldl_bounded {N : Nat} {f : ISet → Int → ISet} (hf : ∀ p n, Bounded N p → Bounded N (f p n)) : ∀ (l : List Int) {p : ISet}, Bounded N p → Bounded N (l.foldl f p)
 | [], _, h => h
 | n :: l, _, h => foldl_bounded hf l (hf _ n h)
theorem inF_mono (g : GraphP) (x : BlockP) {p q : ISet} (h : p.le q) : (inF g x p).le (inF g x q) :=
 foldl_mono (fun _ _ n h => del_mono n h) _ (foldl_mono (fun _ _ n h => nodeUse_mono g n h) _ (add_mono _ (add_mono _ h fun _ h => h) fun _ h => h))
theorem inF_bounded (g : GraphP) (x : BlockP) {p : ISet} (h : Bounded g.nodes.length p) : Bounded g.nodes.length (inF g x p) :=
 foldl_bounded (fun _ n h => del_bounded n h) _ (foldl_bounded (fun _ n h => nodeUse_bounded g n h) _ (add_bounded _ (add_bounded _ h)))

/-- The block of a number, if there is one. -/
def blockAt (g : GraphP) (n : Int) : Option BlockP := if n < 0 then none else g.blocks[n.toNat]?
theorem blockAt_nat (g : GraphP) (k : Nat) : blockAt g (k : Int) = g.blocks[k]? := by unfold blockAt; rw [if_neg (by omega), Int.toNat_natCast]
theorem blockAt_neg {g : GraphP} {n : Int} (h : n < 0) : blockAt g n = none := by unfold blockAt; rw [if_pos h]
/-- The sets at the blocks' beginnings: none yet, or a set. -/
abbrev Sets := Nat → Option ISet
def Sets.at_ (I : Sets) (n : Nat) : ISet := (I n).getD ISet.empty
def outStep (g : GraphP) (I : Sets) (b : Int) (q : ISet) (n : Int) : ISet := match blockAt g n with
 | some y => (q.add g.nodes.length (listOf g.nodes.length (I.at_ n.toNat))).add g.nodes.length (phisOf g y b)
 | none => q
theorem outStep_none {g : GraphP} {I : Sets} {b : Int} {q : ISet} {n : Int} (h : blockAt g n = none) : outStep g I b q n = q := by unfold outStep; rw [h]
theorem outStep_some {g : GraphP} {I : Sets} {b : Int} {q : ISet} {n : Int} {y : BlockP} (h : blockAt g n = some y) : outStep g I b q n = (q.add g.nodes.length (listOf g.nodes.length (I.at_ n.toNat))).add g.nodes.length (phisOf g y b) := by unfold outStep; rw [h]
def outTo (g : GraphP) (I : Sets) (b : Int) (x : BlockP) (k : Nat) : ISet := (x.next.take k).foldl (outStep g I b) ISet.empty
/-- What is live at a block's end. -/
def outF (g : GraphP) (I : Sets) (b : Int) (x : BlockP) : ISet := x.next.foldl (outStep g I b) ISet.empty
theorem outTo_step (g : GraphP) (I : Sets) (b : Int) (x : BlockP) (k : Nat) (n : Int) (h : x.next[k]? = some n) : outTo g I b x (k + 1) = outStep g I b (outTo g I b x k) n := by
 unfold outTo; rw [List.take_add_one, h, List.foldl_append]; rfl
theorem outTo_all (g : GraphP) (I : Sets) (b : Int) (x : BlockP) : outTo g I b x x.next.length = outF g I b x := by unfold outTo outF; rw [List.take_length]
def Sets.le (I J : Sets) : Prop := ∀ n, (I.at_ n).le (J.at_ n)
theorem listOf_mono {N : Nat} {p q : ISet} (h : p.le q) (x : Int) (hx : x ∈ listOf N p) : x ∈ listOf N q := by
 unfold listOf at *
 simp only [List.mem_map, List.mem_filter] at hx ⊢
 obtain ⟨i, ⟨h1, h2⟩, rfl⟩ := hx
 exact ⟨i, ⟨h1, h _ h2⟩, rfl⟩
theorem outStep_mono (g : GraphP) {I J : Sets} (hI : I.le J) (b : Int) (p q : ISet) (n : Int) (h : p.le q) : (outStep g I b p n).le (outStep g J b q n) := by
 unfold outStep
 split
 ·exact add_mono _ (add_mono _ h (listOf_mono (hI _))) fun _ h => h
 ·exact h
theorem outF_mono (g : GraphP) {I J : Sets} (hI : I.le J) (b : Int) (x : BlockP) : (outF g I b x).le (outF g J b x) := by
 unfold outF
 suffices h : ∀ (l : List Int) (p q : ISet), p.le q → (l.foldl (outStep g I b) p).le (l.foldl (outStep g J b) q) from h _ _ _ (ISet.le_refl _)
 intro l
 induction l with
 | nil => exact fun _ _ h => h
 | cons n l ih => exact fun p q h => ih _ _ (outStep_mono g hI b p q n h)
theorem outStep_bounded (g : GraphP) (I : Sets) (b : Int) (q : ISet) (n : Int) (h : Bounded g.nodes.length q) : Bounded g.nodes.length (outStep g I b q n) := by
 unfold outStep
 split
 ·exact add_bounded _ (add_bounded _ h)
 ·exact h
theorem outF_bounded (g : GraphP) (I : Sets) (b : Int) (x : BlockP) : Bounded g.nodes.length (outF g I b x) := foldl_bounded (outStep_bounded g I b) _ (empty_bounded _)

def Sets.put (I : Sets) (b : Nat) (p : ISet) : Sets := fun j => if j = b then some p else I j
theorem Sets.put_at (I : Sets) (b : Nat) (p : ISet) : (I.put b p).at_ b = p := by simp [Sets.at_, Sets.put]
theorem Sets.put_other (I : Sets) {b j : Nat} (p : ISet) (h : j ≠ b) : I.put b p j = I j := by simp [Sets.put, h]
theorem Sets.put_ge {I : Sets} {b : Nat} {p : ISet} (h : (I.at_ b).le p) : I.le (I.put b p) := by
 intro j
 by_cases e : j = b
 ·subst e; rw [Sets.put_at]; exact h
 ·unfold Sets.at_; rw [Sets.put_other I p e]; exact ISet.le_refl _

/-- How many numbers below N are in a set. -/
def card (N : Nat) (p : ISet) : Nat := ((List.range N).filter (fun (i : Nat) => p (i : Int))).length
theorem card_le (N : Nat) (p : ISet) : card N p ≤ N := Nat.le_trans (List.length_filter_le _ _) (by simp)
theorem filter_len_le {l : List Nat} {f f' : Nat → Bool} (h : ∀ i, f i = true → f' i = true) : (l.filter f).length ≤ (l.filter f').length := by
 induction l with
 | nil => simp
 | cons a l ih =>
  simp only [List.filter_cons]
  by_cases h1 : f a = true
  ·simp only [h1, h a h1, if_true, List.length_cons]; omega
  ·simp only [h1]
   by_cases h2 : f' a = true
   ·simp only [h2, if_true, List.length_cons]; simp only [Bool.false_eq_true, if_false]; omega
   ·simp only [h2, Bool.false_eq_true, if_false]; exact ih
theorem filter_len_lt {l : List Nat} {f f' : Nat → Bool} (h : ∀ i, f i = true → f' i = true) {a : Nat} (ha : a ∈ l) (h1 : f a = false) (h2 : f' a = true) : (l.filter f).length < (l.filter f').length := by
 induction l with
 | nil => cases ha
 | cons b l ih =>
  simp only [List.filter_cons]
  rcases List.mem_cons.1 ha with e | ha'
  ·subst e
   simp only [h1, h2, if_true, Bool.false_eq_true, if_false, List.length_cons]
   have := filter_len_le (l := l) h; omega
  ·have := ih ha'
   by_cases h3 : f b = true
   ·simp only [h3, h b h3, if_true, List.length_cons]; omega
   ·simp only [h3, Bool.false_eq_true, if_false]
    by_cases h4 : f' b = true
    ·simp only [h4, if_true, List.length_cons]; omega
    ·simp only [h4, Bool.false_eq_true, if_false]; exact this
theorem card_mono {N : Nat} {p q : ISet} (h : p.le q) : card N p ≤ card N q := filter_len_le fun _ hi => h _ hi
theorem card_lt {N : Nat} {p q : ISet} (h : p.le q) (hq : Bounded N q) (hne : p ≠ q) : card N p < card N q := by
 have : ∃ x, p x = false ∧ q x = true := Classical.byContradiction fun hn => hne (ISet.le_antisymm h fun x hx => by
  cases hp : p x
  ·exact absurd ⟨x, hp, hx⟩ hn
  ·rfl)
 obtain ⟨x, hp, hx⟩ := this
 obtain ⟨h0, h1⟩ := hq x hx
 obtain ⟨k, rfl⟩ := Int.eq_ofNat_of_zero_le h0
 exact filter_len_lt (fun i hi => h _ hi) (a := k) (List.mem_range.2 (by omega)) hp hx

def cost (N : Nat) : Option ISet → Nat
 | none => N + 1
 | some p => N - card N p
def total (N nb : Nat) (I O : Sets) : Nat := ((List.range nb).map (fun b => cost N (I b) + cost N (O b))).foldr (· + ·) 0
theorem sum_lt {l : List Nat} {f f' : Nat → Nat} {b : Nat} (hb : b ∈ l) (hle : ∀ j, f' j ≤ f j) (hlt : f' b < f b) : (l.map f').foldr (· + ·) 0 < (l.map f).foldr (· + ·) 0 := by
 have hall : ∀ l : List Nat, (l.map f').foldr (· + ·) 0 ≤ (l.map f).foldr (· + ·) 0 := fun l => by
  induction l with
  | nil => simp
  | cons a l ih => simp only [List.map_cons, List.foldr_cons]; have := hle a; omega
 induction l with
 | nil => cases hb
 | cons a l ih =>
  simp only [List.map_cons, List.foldr_cons]
  rcases List.mem_cons.1 hb with e | hb'
  ·subst e; have := hall l; omega
  ·have := ih hb'; have := hle a; omega

/-- What holds while the sets grow. -/
structure Grows (g : GraphP) (I O : Sets) : Prop where
 both : ∀ b, (I b).isSome = (O b).isSome
 boundI : ∀ b, Bounded g.nodes.length (I.at_ b)
 boundO : ∀ b, Bounded g.nodes.length (O.at_ b)
 upI : ∀ (b : Nat) x, g.blocks[b]? = some x → (I.at_ b).le (inF g x (O.at_ b))
 upO : ∀ (b : Nat) x, g.blocks[b]? = some x → (O.at_ b).le (outF g I b x)
 least : ∀ J Q : Sets, (∀ (b : Nat) x, g.blocks[b]? = some x → (outF g J b x).le (Q.at_ b) ∧ (inF g x (Q.at_ b)).le (J.at_ b)) → I.le J ∧ O.le Q
theorem Grows.start (g : GraphP) : Grows g (fun _ => none) (fun _ => none) :=
 ⟨fun _ => rfl, fun _ => empty_bounded _, fun _ => empty_bounded _, fun _ _ _ => ISet.empty_le _, fun _ _ _ => ISet.empty_le _, fun _ _ _ => ⟨fun _ => ISet.empty_le _, fun _ => ISet.empty_le _⟩⟩

theorem Grows.step {g : GraphP} {I O : Sets} (h : Grows g I O) {b : Nat} {x : BlockP} (hx : g.blocks[b]? = some x) :
  Grows g (I.put b (inF g x (outF g I b x))) (O.put b (outF g I b x)) := by
 have h1 := h.upO b x hx
 have h2 : (I.at_ b).le (inF g x (outF g I b x)) := ISet.le_trans (h.upI b x hx) (inF_mono g x h1)
 have hI : I.le (I.put b (inF g x (outF g I b x))) := Sets.put_ge h2
 have hO : O.le (O.put b (outF g I b x)) := Sets.put_ge h1
 refine ⟨fun j => ?_, fun j => ?_, fun j => ?_, fun j y hy => ?_, fun j y hy => ?_, fun J Q hJ => ⟨fun j => ?_, fun j => ?_⟩⟩
 ·by_cases e : j = b
  ·simp [Sets.put, e]
  ·rw [Sets.put_other I _ e, Sets.put_other O _ e]; exact h.both j
 ·by_cases e : j = b
  ·subst e; rw [Sets.put_at]; exact inF_bounded g x (outF_bounded g I j x)
  ·unfold Sets.at_; rw [Sets.put_other I _ e]; exact h.boundI j
 ·by_cases e : j = b
  ·subst e; rw [Sets.put_at]; exact outF_bounded g I j x
  ·unfold Sets.at_; rw [Sets.put_other O _ e]; exact h.boundO j
 ·by_cases e : j = b
  ·subst e
   rw [hx] at hy; injection hy with hy; subst hy
   rw [Sets.put_at, Sets.put_at]; exact ISet.le_refl _
  ·have := h.upI j y hy
   unfold Sets.at_ at *
   rw [Sets.put_other I _ e, Sets.put_other O _ e]; exact this
 ·by_cases e : j = b
  ·subst e
   rw [hx] at hy; injection hy with hy; subst hy
   rw [Sets.put_at]; exact outF_mono g hI j x
  ·have := ISet.le_trans (h.upO j y hy) (outF_mono g hI j y)
   unfold Sets.at_ at *
   rw [Sets.put_other O _ e]; exact this
 ·obtain ⟨hl, _⟩ := h.least J Q hJ
  by_cases e : j = b
  ·subst e
   rw [Sets.put_at]
   exact ISet.le_trans (inF_mono g x (ISet.le_trans (outF_mono g hl j x) (hJ j x hx).1)) (hJ j x hx).2
  ·have := hl j
   unfold Sets.at_ at *
   rw [Sets.put_other I _ e]; exact this
 ·obtain ⟨hl, hq⟩ := h.least J Q hJ
  by_cases e : j = b
  ·subst e
   rw [Sets.put_at]
   exact ISet.le_trans (outF_mono g hl j x) (hJ j x hx).1
  ·have := hq j
   unfold Sets.at_ at *
   rw [Sets.put_other O _ e]; exact this

theorem Sets.at_some {I : Sets} {b : Nat} {p : ISet} (h : I b = some p) : I.at_ b = p := by unfold Sets.at_; rw [h]; rfl

/-- A round that turns something lowers the measure. -/
theorem Grows.falls {g : GraphP} {I O : Sets} (h : Grows g I O) {b nb : Nat} {x : BlockP} (hx : g.blocks[b]? = some x) (hb : b < nb) (hne : ¬ (I b = some (inF g x (outF g I b x)) ∧ O b = some (outF g I b x))) :
  total g.nodes.length nb (I.put b (inF g x (outF g I b x))) (O.put b (outF g I b x)) < total g.nodes.length nb I O := by
 have h1 := h.upO b x hx
 have h2 : (I.at_ b).le (inF g x (outF g I b x)) := ISet.le_trans (h.upI b x hx) (inF_mono g x h1)
 have bI := inF_bounded g x (outF_bounded g I b x)
 have bO := outF_bounded g I b x
 have key : cost g.nodes.length (some (inF g x (outF g I b x))) + cost g.nodes.length (some (outF g I b x)) < cost g.nodes.length (I b) + cost g.nodes.length (O b) := by
  have hboth := h.both b
  cases hI : I b with
  | none =>
   rw [hI] at hboth
   cases hO : O b with
   | none => simp only [cost]; omega
   | some q => rw [hO] at hboth; cases hboth
  | some p =>
   rw [hI] at hboth
   cases hO : O b with
   | none => rw [hO] at hboth; cases hboth
   | some q =>
    rw [Sets.at_some hI] at h2
    rw [Sets.at_some hO] at h1
    simp only [cost]
    have c1 := card_mono (N := g.nodes.length) h2
    have c2 := card_mono (N := g.nodes.length) h1
    have c3 := card_le g.nodes.length (inF g x (outF g I b x))
    have c4 := card_le g.nodes.length (outF g I b x)
    by_cases e1 : p = inF g x (outF g I b x)
    ·by_cases e2 : q = outF g I b x
     ·exact absurd ⟨by rw [hI, ← e1], by rw [hO, ← e2]⟩ hne
     ·have := card_lt h1 bO e2; omega
    ·have := card_lt h2 bI e1; omega
 refine sum_lt (List.mem_range.2 hb) (fun j => ?_) ?_
 ·by_cases e : j = b
  ·subst e; simp only [Sets.put, if_true]; omega
  ·rw [Sets.put_other I _ e, Sets.put_other O _ e]; exact Nat.le_refl _
 ·simp only [Sets.put, if_true]; exact key

/-- What is live where. -/
structure LiveIs (g : GraphP) (I O : Sets) : Prop where
 boundI : ∀ b, Bounded g.nodes.length (I.at_ b)
 boundO : ∀ b, Bounded g.nodes.length (O.at_ b)
 isI : ∀ (b : Nat) x, g.blocks[b]? = some x → I b = some (inF g x (O.at_ b))
 isO : ∀ (b : Nat) x, g.blocks[b]? = some x → O b = some (outF g I b x)
 least : ∀ J Q : Sets, (∀ (b : Nat) x, g.blocks[b]? = some x → (outF g J b x).le (Q.at_ b) ∧ (inF g x (Q.at_ b)).le (J.at_ b)) → I.le J ∧ O.le Q

theorem Grows.done {g : GraphP} {I O : Sets} (h : Grows g I O) (hd : ∀ (b : Nat) x, g.blocks[b]? = some x → I b = some (inF g x (outF g I b x)) ∧ O b = some (outF g I b x)) : LiveIs g I O :=
 ⟨h.boundI, h.boundO, fun b x hx => by rw [Sets.at_some (hd b x hx).2]; exact (hd b x hx).1, fun b x hx => (hd b x hx).2, h.least⟩
end Go.Proofs.YtkmfdiboekoioaaGreat

/- A graph in a box, and a block in a box, as they stay while other things are made or maps are written. No condition. -/
namespace Go.Proofs.YtkmfdiboekoioaaGreat
open Go.RowKit

/-- The cells of a graph's box. -/
def gbox (g : GraphP) (x : GVals) : Array Value := #[.int .i64 g.fn, .int .i64 g.pc, .int .i64 g.slots, x.vn, x.vb, x.vs]
structure GCtx (w : World) (B bx : Nat) (xv : GVals) (g : GraphP) : Prop where
 gr : GraphV w B xv g
 hB : B ≤ w.heap.size
 box : Blk w bx 28 (gbox g xv)
section
variable {w w' : World} {B bx : Nat} {xv : GVals} {g : GraphP}
theorem GCtx.below (h : GCtx w B bx xv g) (hb : Below w.heap.size w w') : GCtx w' B bx xv g :=
 ⟨h.gr.keep (Same.of_below (hb.mono h.hB)), Nat.le_trans h.hB hb.size, h.box.below hb h.box.lt⟩
theorem GCtx.lt (h : GCtx w B bx xv g) : bx < w.heap.size := h.box.lt
theorem SetM.ne {r : Nat} {p : ISet} {g : Nat} {t : TypeId} {cs : Array Value} (h : SetM w r p) (hb : Blk w g t cs) : g ≠ r := by
 rintro rfl
 obtain ⟨es, clock, hh, _⟩ := h
 unfold Blk at hb
 rw [hh] at hb; cases hb
theorem GCtx.turn {r : Nat} {p q : ISet} (h : GCtx w B bx xv g) (hp : SetM w r p) (hq : SetM w' r q) (hg : w.grownBy w' (some r)) : GCtx w' B bx xv g :=
 ⟨h.gr.keep fun a ha => cell_mapturn hp (.inr ⟨_, hq⟩) hg (Nat.lt_of_lt_of_le ha h.hB), Nat.le_trans h.hB hg.size, h.box.grown hg (fun e => by injection e with e; exact hp.ne h.box e)⟩
theorem GCtx.graph (h : GCtx w B bx xv g) : GraphV w w.heap.size xv g := h.gr.mono h.hB
theorem GCtx.cells (h : GCtx w B bx xv g) : w.cell? ⟨bx, 0, none⟩ = some (.int .i64 g.fn) ∧ w.cell? ⟨bx, 1, none⟩ = some (.int .i64 g.pc) ∧ w.cell? ⟨bx, 2, none⟩ = some (.int .i64 g.slots) ∧
  w.cell? ⟨bx, 3, none⟩ = some xv.vn ∧ w.cell? ⟨bx, 4, none⟩ = some xv.vb ∧ w.cell? ⟨bx, 5, none⟩ = some xv.vs :=
 ⟨h.box.cell 0, h.box.cell 1, h.box.cell 2, h.box.cell 3, h.box.cell 4, h.box.cell 5⟩
theorem GCtx.alloc (h : GCtx w B bx xv g) (o : Obj) : GCtx (w.alloc o) B bx xv g := h.below ((Below.refl _ _).alloc (Nat.le_refl _) _)
theorem GCtx.setCell (h : GCtx w B bx xv g) {p : Addr} (hp : B ≤ p.block) (hne : bx ≠ p.block) (u : Value) : GCtx (w.setCell p u) B bx xv g :=
 ⟨h.gr.keep fun a ha => World.cell?_setCell_other w p a u (fun e => by subst e; omega), by simpa [World.setCell] using h.hB, h.box.far hne u⟩
end

/-- The values of a block's slices. -/
structure BVals where
 v0 : Value
 v2 : Value
 v3 : Value
 v4 : Value
def bbox (x : BlockP) (y : BVals) : Array Value := #[y.v0, .int .u8 x.fin, y.v2, y.v3, y.v4, .int .i64 x.state]
structure BParts (w : World) (B : Nat) (y : BVals) (x : BlockP) : Prop where
 p0 : IntsV w B y.v0 x.nodes
 p2 : IntsV w B y.v2 x.args
 p3 : IntsV w B y.v3 x.next
 p4 : IntsV w B y.v4 x.ahead
structure BCtx (w : World) (B bx : Nat) (y : BVals) (x : BlockP) : Prop where
 parts : BParts w B y x
 hB : B ≤ w.heap.size
 box : Blk w bx 41 (bbox x y)
section
variable {w w' : World} {B bx : Nat} {y : BVals} {x : BlockP}
theorem BParts.keep (h : BParts w B y x) (hk : Same B w w') : BParts w' B y x := ⟨h.p0.keep hk, h.p2.keep hk, h.p3.keep hk, h.p4.keep hk⟩
theorem BCtx.below (h : BCtx w B bx y x) (hb : Below w.heap.size w w') : BCtx w' B bx y x :=
 ⟨h.parts.keep (Same.of_below (hb.mono h.hB)), Nat.le_trans h.hB hb.size, h.box.below hb h.box.lt⟩
theorem BCtx.turn {r : Nat} {p q : ISet} (h : BCtx w B bx y x) (hp : SetM w r p) (hq : SetM w' r q) (hg : w.grownBy w' (some r)) : BCtx w' B bx y x :=
 ⟨h.parts.keep fun a ha => cell_mapturn hp (.inr ⟨_, hq⟩) hg (Nat.lt_of_lt_of_le ha h.hB), Nat.le_trans h.hB hg.size, h.box.grown hg (fun e => by injection e with e; exact hp.ne h.box e)⟩
theorem BCtx.cells (h : BCtx w B bx y x) : w.cell? ⟨bx, 0, none⟩ = some y.v0 ∧ w.cell? ⟨bx, 2, none⟩ = some y.v2 ∧ w.cell? ⟨bx, 3, none⟩ = some y.v3 ∧ w.cell? ⟨bx, 4, none⟩ = some y.v4 ∧ w.cell? ⟨bx, 5, none⟩ = some (.int .i64 x.state) :=
 ⟨h.box.cell 0, h.box.cell 2, h.box.cell 3, h.box.cell 4, h.box.cell 5⟩
theorem BlockAt.parts {b o : Nat} (h : BlockAt w B b o x) : ∃ y : BVals, BParts w B y x ∧ w.cell? ⟨b, o, none⟩ = some y.v0 ∧ w.cell? ⟨b, o + 1, none⟩ = some (.int .u8 x.fin) ∧ w.cell? ⟨b, o + 2, none⟩ = some y.v2 ∧ w.cell? ⟨b, o + 3, none⟩ = some y.v3 ∧
  w.cell? ⟨b, o + 4, none⟩ = some y.v4 ∧ w.cell? ⟨b, o + 5, none⟩ = some (.int .i64 x.state) := by
 obtain ⟨⟨v0, h0, h0'⟩, h1, ⟨v2, h2, h2'⟩, ⟨v3, h3, h3'⟩, ⟨v4, h4, h4'⟩, h5⟩ := h
 exact ⟨⟨v0, v2, v3, v4⟩, ⟨h0', h2', h3', h4'⟩, h0, h1, h2, h3, h4, h5⟩
theorem IntsV.shape {v : Value} {l : List Int} (h : IntsV w B v l) : ∃ A c, v = .slice A l.length c := by
 obtain ⟨A, c, hv, _⟩ := h
 exact ⟨A, c, hv⟩
end
theorem grown_of_below {w w' : World} (h : Below w.heap.size w w') (row : Option Nat) : w.grownBy w' row := ⟨h.os, h.tape, h.output, h.size, fun i hi _ => h.block i hi⟩
theorem grown_undrew {w w' : World} {row : Option Nat} (h : w.drew.grownBy w' row) : w.grownBy w' row := ⟨h.os, h.tape, h.output, h.size, h.block⟩
/-- Sets stay while another map is written, or things are made. -/
theorem SetM.below {w w' : World} {r : Nat} {p : ISet} (h : SetM w r p) (hb : Below w.heap.size w w') : SetM w' r p := IMap.below h hb h.lt
theorem SetM.other {w w' : World} {r r' : Nat} {p : ISet} (h : SetM w r p) (hg : w.grownBy w' (some r')) (hne : r ≠ r') : SetM w' r p := IMap.grown h hg (fun e => hne (by injection e))
end Go.Proofs.YtkmfdiboekoioaaGreat

/- 'm[x], m[y] = ..': an entry made first, written after. Conditions: the map's types are map, int and int. -/
namespace Go.Proofs.YtkmfdiboekoioaaGreat
open Go.RowKit Go.MapKept
section
variable {P : Program} {w w' : World} {r : Nat} {m : FMap} {T K E : TypeId}
/-- A map that has an entry for x, stamped s. -/
def IMapS (w : World) (r : Nat) (m : FMap) (x s : Int) : Prop :=
 ∃ es clock e, w.heap[r]? = some (.map es clock) ∧ MapIs es clock m ∧ e ∈ es.toList ∧ e.key = .int .i64 x ∧ ((e.born : Nat) : Int) = s
theorem IMapS.map {x s : Int} (h : IMapS w r m x s) : IMap w r m := by
 obtain ⟨es, clock, e, hb, hm, _⟩ := h
 exact ⟨es, clock, hb, hm⟩
theorem IMapS.same {x s : Int} (h : IMapS w r m x s) (hk : w'.heap[r]? = w.heap[r]?) : IMapS w' r m x s := by
 obtain ⟨es, clock, e, hb, h⟩ := h
 exact ⟨es, clock, e, hk.trans hb, h⟩
theorem IMapS.grown {x s : Int} {row : Option Nat} (h : IMapS w r m x s) (hb : w.grownBy w' row) (hr : some r ≠ row) : IMapS w' r m x s := h.same (hb.block r h.map.lt hr)

theorem IMap.entry (h : IMap w r m) (ht : P.underlying T = some (.map K E)) (hk : P.underlying K = some (.int .i64)) (hz : (zeroValue E).run P w = .ok (.int .i64 0) w) (x : Int) :
  ∃ y s w1, (Instr.mapEntry T (.map (some r)) (.int .i64 x)).run P w = .ok (.tuple #[.int .i64 y, .int .i64 s]) w1 ∧ IMapS w1 r (m.put x y) x s ∧ w.grownBy w1 (some r) ∧ w1.heap.size = w.heap.size := by
 obtain ⟨es, clock, hb, hm⟩ := h
 have hkey : IsKey (.int .i64) (.int .i64 x) := rfl
 rcases hm.find x with ⟨h1, h2, h3⟩ | ⟨j, e, v, h1, h2, h3, h4, h5, h6⟩
 ·refine ⟨0, clock, _, ?_, ⟨_, _, { key := .int .i64 x, val := .int .i64 0, born := clock }, (heap_set hb).1, hm.push h3 0, by simp, rfl, rfl⟩, grownBy_set hb _, by simp⟩
  simp [Instr.mapEntry, run_underlying ht, MapKept.run_getObj_map hb, run_checkKey hk hkey, run_findKey hk h1, run_setObj_map _ hb, Result.andThen, hz, goInt]
 ·have he2 : es[j]? = some e := by rw [← Array.getElem?_toList]; exact h2
  have hkt : (Instr.keyThatStays (.int .i64 x) (.int .i64 x)).run P w = .ok (.int .i64 x) w := run_keyThatStays hkey
  have hml := modify_list h2 (fun e => { key := .int .i64 x, val := e.val, born := e.born })
  have hlt : j < es.toList.length := (List.getElem?_eq_some_iff.1 h2).1
  refine ⟨v, e.born, _, ?_, ⟨_, _, { key := .int .i64 x, val := e.val, born := e.born }, (heap_set hb).1, hm.set_ h2 h3 v (by rw [hml]; simp only [h4]), ?_, rfl, rfl⟩, grownBy_set hb _, by simp⟩
  ·simp [Instr.mapEntry, run_underlying ht, MapKept.run_getObj_map hb, run_checkKey hk hkey, run_findKey hk h1, run_setObj_map _ hb, Result.andThen, he2, h3, hkt, goInt]
  ·rw [hml]
   exact List.mem_of_getElem? (i := j) (by rw [List.getElem?_set]; simp only [if_true]; rw [if_pos hlt])

theorem FMap.put_put (m : FMap) (x y z : Int) : (m.put x y).put x z = m.put x z := by
 funext k
 simp only [FMap.put]
 split <;> rfl

theorem IMapS.store {x s : Int} (h : IMapS w r m x s) (T : TypeId) (y : Int) :
  ∃ w1, (Instr.entryStore T (.map (some r)) (.int .i64 s) (.int .i64 y)).run P w = .ok () w1 ∧ IMap w1 r (m.put x y) ∧ w.grownBy w1 (some r) ∧ w1.heap.size = w.heap.size := by
 obtain ⟨es, clock, e, hb, hm, he, hke, rfl⟩ := h
 obtain ⟨j, hj⟩ := List.mem_iff_getElem?.1 he
 have hn : (es.toList.map (·.born)).Nodup := by
  rw [List.nodup_iff_pairwise_ne, List.pairwise_map]
  exact hm.2.2.imp fun h => h.2
 have hf : es.findIdx? (fun a => ((a.born : Nat) : Int) == ((e.born : Nat) : Int)) = some j := by rw [Go.WideElems.findIdx_arr]; exact Go.WideElems.findIdx_born hn hj
 have hml := modify_list hj (fun a => { key := a.key, val := .int .i64 y, born := a.born })
 refine ⟨_, ?_, ⟨_, _, (heap_set hb).1, hm.set_ hj hke y (by rw [hml]; rw [hke])⟩, grownBy_set hb _, by simp⟩
 simp [Instr.entryStore, MapKept.run_getObj_map hb, Result.andThen, asInt, asIntOf, hf, run_setObj_map _ hb]
end
end Go.Proofs.YtkmfdiboekoioaaGreat
