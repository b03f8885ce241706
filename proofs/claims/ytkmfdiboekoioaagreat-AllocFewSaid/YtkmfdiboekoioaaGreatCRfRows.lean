/- Two rows of rows of integers in a box of the reference 20, as XRowsOf has them for the program's own. No condition. -/
import Derived.Test.YtkmfdiboekoioaaGreatCRowsOf
import Derived.Test.YtkmfdiboekoioaaGreatCRfGrow
import Derived.Test.YtkmfdiboekoioaaGreatCRfRow
set_option linter.unusedSimpArgs false
set_option linter.unusedVariables false
namespace Go.Proofs.YtkmfdiboekoioaaGreat.R20
open Go.RowKit
/-- wr: the world at the beginning; its end is where the box of two cells lies. -/
structure RS (wr W : World) (cI cO vI vO : Value) (LI LO L : Tracked) (B : List (Nat × Value)) : Prop where
 low : Below wr.heap.size wr W
 box : Blk W wr.heap.size 124 #[cI, cO]
 ownI : W.ownsRow (wr.heap.size + 1) 34 1 vI LI.length (firsts LI)
 ownO : W.ownsRow (wr.heap.size + 1) 34 1 vO LO.length (firsts LO)
 dis : ∀ g, vI.ownBlock = some g → vO.ownBlock ≠ some g
 ints : ∀ p ∈ LI ++ LO ++ L, OwnInts W (wr.heap.size + 1) p.1 p.2 ∧ ∀ g, p.1.ownBlock = some g → vI.ownBlock ≠ some g ∧ vO.ownBlock ≠ some g
 blds : ∀ p ∈ B, Blk W p.1 34 #[p.2] ∧ vI.ownBlock ≠ some p.1 ∧ vO.ownBlock ≠ some p.1
section
variable {wr W W' : World} {cI cO vI vO : Value} {LI LO L : Tracked} {B : List (Nat × Value)}
theorem RS.size (h : RS wr W cI cO vI vO LI LO L B) : wr.heap.size + 1 ≤ W.heap.size := h.box.lt
theorem RS.keep (h : RS wr W cI cO vI vO LI LO L B) (hg : W.grownBy W' none) : RS wr W' cI cO vI vO LI LO L B where
 low := h.low.grown hg h.low.size (fun _ e => by cases e)
 box := h.box.grown hg (by simp)
 ownI := kept_own h.ownI hg (fun _ _ => by simp)
 ownO := kept_own h.ownO hg (fun _ _ => by simp)
 dis := h.dis
 ints := fun p hp => ⟨kept_own (h.ints p hp).1 hg (fun _ _ => by simp), (h.ints p hp).2⟩
 blds := fun p hp => ⟨(h.blds p hp).1.grown hg (by simp), (h.blds p hp).2⟩
theorem RS.drew (h : RS wr W cI cO vI vO LI LO L B) : RS wr W.drew cI cO vI vO LI LO L B := h.keep ⟨rfl, rfl, rfl, Nat.le_refl _, fun _ _ _ => rfl⟩
theorem RS.build (h : RS wr W cI cO vI vO LI LO L B) (u : Value) : RS wr (W.alloc (.cells #[u] 34)) cI cO vI vO LI LO L ((W.heap.size, u) :: B) := by
 have k := h.keep (W' := W.alloc (.cells #[u] 34)) (grown_of_below ((Below.refl _ _).alloc (Nat.le_refl _) _) none)
 refine ⟨k.low, k.box, k.ownI, k.ownO, k.dis, k.ints, fun p hp => ?_⟩
 rcases List.mem_cons.1 hp with rfl | hp
 ·exact ⟨Blk.new _ _ _, fun e => absurd (h.ownI.lt _ e).2 (Nat.lt_irrefl _), fun e => absurd (h.ownO.lt _ e).2 (Nat.lt_irrefl _)⟩
 ·exact k.blds p hp
theorem RS.list (h : RS wr W cI cO vI vO LI LO L B) {v : Value} {l : List Int} (hb : Below W.heap.size W W') (ho : OwnInts W' W.heap.size v l) : RS wr W' cI cO vI vO LI LO ((v, l) :: L) B := by
 have k := h.keep (grown_of_below hb none)
 refine ⟨k.low, k.box, k.ownI, k.ownO, k.dis, fun p hp => ?_, k.blds⟩
 rcases List.mem_append.1 hp with hp | hp
 ·exact k.ints p (List.mem_append_left _ hp)
 ·rcases List.mem_cons.1 hp with rfl | hp
  ·refine ⟨ho.mono h.size, fun g hgv => ?_⟩
   have := (World.ownsRow.lt ho g hgv).1
   exact ⟨fun e => by have := (h.ownI.lt _ e).2; omega, fun e => by have := (h.ownO.lt _ e).2; omega⟩
  ·exact k.ints p (List.mem_append_right _ hp)
theorem RS.drop (h : RS wr W cI cO vI vO LI LO L B) : RS wr W cI cO vI vO LI LO [] [] :=
 ⟨h.low, h.box, h.ownI, h.ownO, h.dis, fun p hp => h.ints p (by simp only [List.append_nil] at hp; exact List.mem_append_left _ hp), fun p hp => by cases hp⟩
theorem RS.stored (h : RS wr W cI cO vI vO LI LO L B) : RS wr ((W.setCell ⟨wr.heap.size, 0, none⟩ vI).setCell ⟨wr.heap.size, 1, none⟩ vO) vI vO vI vO LI LO [] [] := by
 have hg : W.grownBy ((W.setCell ⟨wr.heap.size, 0, none⟩ vI).setCell ⟨wr.heap.size, 1, none⟩ vO) (some wr.heap.size) :=
  ⟨rfl, rfl, rfl, by simp [World.setCell], fun k hk hne => by
   have e : k ≠ wr.heap.size := fun e => hne (by rw [e])
   exact (Below.heap_setCell _ ⟨wr.heap.size, 1, none⟩ _ _ e).trans (Below.heap_setCell _ ⟨wr.heap.size, 0, none⟩ _ _ e)⟩
 have far : ∀ {n : Nat} {e : TypeId} {v : Value} {xs : List Value}, W.ownsRow (wr.heap.size + 1) e 1 v n xs → ∀ g, v.ownBlock = some g → some wr.heap.size ≠ some g := fun h g hv e => by
  have := (h.lt g hv).1; injection e with e; omega
 refine ⟨h.low.grown hg h.low.size (fun k e => by injection e with e; omega), (h.box.set_ 0 vI).set_ 1 vO, kept_own h.ownI hg (far h.ownI), kept_own h.ownO hg (far h.ownO), h.dis, fun p hp => ?_, fun p hp => by cases hp⟩
 obtain ⟨k1, k2⟩ := h.ints p (by simp only [List.append_nil] at hp; exact List.mem_append_left _ hp)
 exact ⟨kept_own k1 hg (far k1), k2⟩
theorem RS.cells (h : RS wr W cI cO vI vO LI LO L B) {bi bo k : Nat} {mi mo : Value} (hi : wr.cell? ⟨bi, k, none⟩ = some mi) (ho : wr.cell? ⟨bo, k, none⟩ = some mo) :
  W.cell? ⟨wr.heap.size, 0, none⟩ = some cI ∧ W.cell? ⟨wr.heap.size, 1, none⟩ = some cO ∧ W.cell? ⟨bi, k, none⟩ = some mi ∧ W.cell? ⟨bo, k, none⟩ = some mo ∧ W.frozen? ⟨wr.heap.size, 0, none⟩ = false ∧ W.frozen? ⟨wr.heap.size, 1, none⟩ = false :=
 ⟨h.box.cell 0, h.box.cell 1, (h.low.cell (World.block_lt_of_cell? _ _ hi)).trans hi, (h.low.cell (World.block_lt_of_cell? _ _ ho)).trans ho, h.box.frozen 0, h.box.frozen 1⟩
theorem RS.appI {u : Value} {l : List Int} {g c : Nat} (h : RS wr W cI cO vI vO LI LO L B) (hl : (u, l) ∈ L)
  (hown : W'.ownsRow (wr.heap.size + 1) 34 1 (.slice (some ⟨g, 0, none⟩) (LI.length + 1) c) (LI.length + 1) (firsts LI ++ [u])) (hg : W.grownBy W' vI.ownBlock) (hat : vI.ownBlock = some g ∨ g = W.heap.size) :
  RS wr W' cI cO (.slice (some ⟨g, 0, none⟩) (LI.length + 1) c) vO (LI ++ [(u, l)]) LO L B := by
 have fresh : ∀ {n : Nat} {e : TypeId} {v : Value} {xs : List Value}, W.ownsRow (wr.heap.size + 1) e 1 v n xs → (∀ k, v.ownBlock = some k → vI.ownBlock ≠ some k) → v.ownBlock ≠ some g := fun ho hne hv => by
  rcases hat with hat | hat
  ·exact hne g hv hat
  ·have := (ho.lt g hv).2; omega
 have old : ∀ {n : Nat} {e : TypeId} {v : Value} {xs : List Value}, W.ownsRow (wr.heap.size + 1) e 1 v n xs → (∀ k, v.ownBlock = some k → vI.ownBlock ≠ some k) → W'.ownsRow (wr.heap.size + 1) e 1 v n xs := fun ho hne => kept_own ho hg hne
 have hO : ∀ k, vO.ownBlock = some k → vI.ownBlock ≠ some k := fun k hk e => h.dis k e hk
 refine ⟨h.low.grown hg h.low.size (fun k e => by have := (h.ownI.lt k e).1; omega), h.box.grown hg (fun e => by have := (h.ownI.lt _ e.symm).1; omega), by rw [firsts_snoc, List.length_append]; exact hown, old h.ownO hO, fun k hk hv => ?_, fun p hp => ?_, fun p hp => ?_⟩
 ·have : k = g := by simpa [Value.ownBlock] using hk.symm
  subst this
  exact fresh h.ownO hO hv
 ·have hp' : p ∈ LI ++ LO ++ L := by
   simp only [List.mem_append, List.mem_singleton] at hp ⊢
   rcases hp with ((hp | rfl) | hp) | hp
   ·exact .inl (.inl hp)
   ·exact .inr hl
   ·exact .inl (.inr hp)
   ·exact .inr hp
  obtain ⟨k1, k2⟩ := h.ints p hp'
  refine ⟨old k1 fun k hk => (k2 k hk).1, fun k hk => ⟨fun e => ?_, (k2 k hk).2⟩⟩
  have : k = g := by simpa [Value.ownBlock] using e.symm
  subst this
  exact fresh k1 (fun k hk => (k2 k hk).1) hk
 ·obtain ⟨k1, k2, k3⟩ := h.blds p hp
  refine ⟨k1.grown hg (fun e => k2 e.symm), fun e => ?_, k3⟩
  have : p.1 = g := by simpa [Value.ownBlock] using e.symm
  rcases hat with hat | hat
  ·exact k2 (by rw [this]; exact hat)
  ·have := k1.lt; omega
theorem RS.appO {u : Value} {l : List Int} {g c : Nat} (h : RS wr W cI cO vI vO LI LO L B) (hl : (u, l) ∈ L)
  (hown : W'.ownsRow (wr.heap.size + 1) 34 1 (.slice (some ⟨g, 0, none⟩) (LO.length + 1) c) (LO.length + 1) (firsts LO ++ [u])) (hg : W.grownBy W' vO.ownBlock) (hat : vO.ownBlock = some g ∨ g = W.heap.size) :
  RS wr W' cI cO vI (.slice (some ⟨g, 0, none⟩) (LO.length + 1) c) LI (LO ++ [(u, l)]) L B := by
 have fresh : ∀ {n : Nat} {e : TypeId} {v : Value} {xs : List Value}, W.ownsRow (wr.heap.size + 1) e 1 v n xs → (∀ k, v.ownBlock = some k → vO.ownBlock ≠ some k) → v.ownBlock ≠ some g := fun ho hne hv => by
  rcases hat with hat | hat
  ·exact hne g hv hat
  ·have := (ho.lt g hv).2; omega
 have old : ∀ {n : Nat} {e : TypeId} {v : Value} {xs : List Value}, W.ownsRow (wr.heap.size + 1) e 1 v n xs → (∀ k, v.ownBlock = some k → vO.ownBlock ≠ some k) → W'.ownsRow (wr.heap.size + 1) e 1 v n xs := fun ho hne => kept_own ho hg hne
 refine ⟨h.low.grown hg h.low.size (fun k e => by have := (h.ownO.lt k e).1; omega), h.box.grown hg (fun e => by have := (h.ownO.lt _ e.symm).1; omega), old h.ownI h.dis, by rw [firsts_snoc, List.length_append]; exact hown, fun k hv hk => ?_, fun p hp => ?_, fun p hp => ?_⟩
 ·have : k = g := by simpa [Value.ownBlock] using hk.symm
  subst this
  exact fresh h.ownI h.dis hv
 ·have hp' : p ∈ LI ++ LO ++ L := by
   simp only [List.mem_append, List.mem_singleton] at hp ⊢
   rcases hp with (hp | hp | rfl) | hp
   ·exact .inl (.inl hp)
   ·exact .inl (.inr hp)
   ·exact .inr hl
   ·exact .inr hp
  obtain ⟨k1, k2⟩ := h.ints p hp'
  refine ⟨old k1 fun k hk => (k2 k hk).2, fun k hk => ⟨(k2 k hk).1, fun e => ?_⟩⟩
  have : k = g := by simpa [Value.ownBlock] using e.symm
  subst this
  exact fresh k1 (fun k hk => (k2 k hk).2) hk
 ·obtain ⟨k1, k2, k3⟩ := h.blds p hp
  refine ⟨k1.grown hg (fun e => k3 e.symm), k2, fun e => ?_⟩
  have : p.1 = g := by simpa [Value.ownBlock] using e.symm
  rcases hat with hat | hat
  ·exact k3 (by rw [this]; exact hat)
  ·have := k1.lt; omega
end
/-- The append to the first row, at a step of a region that draws. -/
theorem stepI {ops : Array Oper} {o : Oper} {a : Act} {K : Act → World → Prop} {Q : Exit → Act → World → Prop} {E : Prop} {W : World} (hgd : o.guard = none) (s x : Operand)
  (ho : o.op = .call { callee := .builtin .append, args := #[s, x], argTypes := #[42, 42] })
  {wr : World} {cI cO vI vO : Value} {LI LO L : Tracked} {B : List (Nat × Value)} (gb : Nat) (u : Value) (l : List Int)
  (hs : a.eval s = vI) (hx : a.eval x = .slice (some ⟨gb, 0, none⟩) 1 1) (h : RS wr W cI cO vI vO LI LO L B) (hu : (u, l) ∈ L) (hb : (gb, u) ∈ B) (hlen : LI.length ≤ 1000000)
  (hK : ∀ g' c' W', RS wr W' cI cO (.slice (some ⟨g', 0, none⟩) (LI.length + 1) c') vO (LI ++ [(u, l)]) LO L B → K (a.put o.dst (.slice (some ⟨g', 0, none⟩) (LI.length + 1) c')) W') :
  if Region.wanted o (yielded ops a.tmps) = true then Oper.wp Tryz.prog o a W K Q else E := by
 obtain ⟨i0, hi, hz0, hz1, hz2⟩ := info_parts rows_info
 refine step_append_lies W hgd s x 42 ho (wr.heap.size + 1) 34 i0 (.slice none 0 0) 1 24 Tryz.underlying42 hi hz0 hz1 hz2 rfl (by decide) vI LI.length (firsts LI) hs h.ownI ⟨gb, 0, none⟩ 1 1 [u] hx rfl ?_ ?_ (by decide) (by unfold maxLen; omega) (by omega) h.size W.heap.size rfl ?_
 ·intro j u' hj
  obtain ⟨rfl, rfl⟩ : j = 0 ∧ u' = u := by
   cases j with
   | zero => exact ⟨rfl, by simpa using hj.symm⟩
   | succ j => simp at hj
  exact (h.blds _ hb).1.cell 0
 ·intro u' hu'
  rw [List.mem_singleton.1 hu']
  exact (h.ints (u, l) (List.mem_append_right _ hu)).1.one
 ·intro g cap W' hown hgrow hat _
  exact hK _ _ _ (h.appI hu hown hgrow hat)
theorem stepO {ops : Array Oper} {o : Oper} {a : Act} {K : Act → World → Prop} {Q : Exit → Act → World → Prop} {E : Prop} {W : World} (hgd : o.guard = none) (s x : Operand)
  (ho : o.op = .call { callee := .builtin .append, args := #[s, x], argTypes := #[42, 42] })
  {wr : World} {cI cO vI vO : Value} {LI LO L : Tracked} {B : List (Nat × Value)} (gb : Nat) (u : Value) (l : List Int)
  (hs : a.eval s = vO) (hx : a.eval x = .slice (some ⟨gb, 0, none⟩) 1 1) (h : RS wr W cI cO vI vO LI LO L B) (hu : (u, l) ∈ L) (hb : (gb, u) ∈ B) (hlen : LO.length ≤ 1000000)
  (hK : ∀ g' c' W', RS wr W' cI cO vI (.slice (some ⟨g', 0, none⟩) (LO.length + 1) c') LI (LO ++ [(u, l)]) L B → K (a.put o.dst (.slice (some ⟨g', 0, none⟩) (LO.length + 1) c')) W') :
  if Region.wanted o (yielded ops a.tmps) = true then Oper.wp Tryz.prog o a W K Q else E := by
 obtain ⟨i0, hi, hz0, hz1, hz2⟩ := info_parts rows_info
 refine step_append_lies W hgd s x 42 ho (wr.heap.size + 1) 34 i0 (.slice none 0 0) 1 24 Tryz.underlying42 hi hz0 hz1 hz2 rfl (by decide) vO LO.length (firsts LO) hs h.ownO ⟨gb, 0, none⟩ 1 1 [u] hx rfl ?_ ?_ (by decide) (by unfold maxLen; omega) (by omega) h.size W.heap.size rfl ?_
 ·intro j u' hj
  obtain ⟨rfl, rfl⟩ : j = 0 ∧ u' = u := by
   cases j with
   | zero => exact ⟨rfl, by simpa using hj.symm⟩
   | succ j => simp at hj
  exact (h.blds _ hb).1.cell 0
 ·intro u' hu'
  rw [List.mem_singleton.1 hu']
  exact (h.ints (u, l) (List.mem_append_right _ hu)).1.one
 ·intro g cap W' hown hgrow hat _
  exact hK _ _ _ (h.appO hu hown hgrow hat)
theorem RS.agree {wr W W' : World} {cI cO vI vO : Value} {LI LO : Tracked} (h : RS wr W cI cO vI vO LI LO [] []) (ha : ∀ k, wr.heap.size < k → k < W.heap.size → W'.heap[k]? = W.heap[k]?)
    (h1 : ∀ p ∈ LI, p.2.length ≤ lim) (h2 : ∀ p ∈ LO, p.2.length ≤ lim) (n1 : LI.length ≤ lim) (n2 : LO.length ≤ lim) :
    RowsV W' W'.heap.size vI (LI.map (fun p => p.2)) ∧ RowsV W' W'.heap.size vO (LO.map (fun p => p.2)) :=
  ⟨rows_of (own_agree h.ownI ha) (fun p hp => own_agree (h.ints p (List.mem_append_left _ (List.mem_append_left _ hp))).1 ha) h1 n1,
   rows_of (own_agree h.ownO ha) (fun p hp => own_agree (h.ints p (List.mem_append_left _ (List.mem_append_right _ hp))).1 ha) h2 n2⟩
theorem RS.storedI {wr W : World} {cI cO vI vO : Value} {LI LO L : Tracked} {B : List (Nat × Value)} (h : RS wr W cI cO vI vO LI LO L B) : RS wr (W.setCell ⟨wr.heap.size, 0, none⟩ vI) vI cO vI vO LI LO [] [] := by
 have hg : W.grownBy (W.setCell ⟨wr.heap.size, 0, none⟩ vI) (some wr.heap.size) :=
  ⟨rfl, rfl, rfl, by simp [World.setCell], fun k hk hne => Below.heap_setCell _ ⟨wr.heap.size, 0, none⟩ _ _ (fun e => hne (by rw [e]))⟩
 have far : ∀ {n : Nat} {e : TypeId} {v : Value} {xs : List Value}, W.ownsRow (wr.heap.size + 1) e 1 v n xs → ∀ g, v.ownBlock = some g → some wr.heap.size ≠ some g := fun h g hv e => by
  have := (h.lt g hv).1; injection e with e; omega
 refine ⟨h.low.grown hg h.low.size (fun k e => by injection e with e; omega), h.box.set_ 0 vI, kept_own h.ownI hg (far h.ownI), kept_own h.ownO hg (far h.ownO), h.dis, fun p hp => ?_, fun p hp => by cases hp⟩
 obtain ⟨k1, k2⟩ := h.ints p (by simp only [List.append_nil] at hp; exact List.mem_append_left _ hp)
 exact ⟨kept_own k1 hg (far k1), k2⟩
theorem RS.storedO {wr W : World} {cI cO vI vO : Value} {LI LO L : Tracked} {B : List (Nat × Value)} (h : RS wr W cI cO vI vO LI LO L B) : RS wr (W.setCell ⟨wr.heap.size, 1, none⟩ vO) cI vO vI vO LI LO [] [] := by
 have hg : W.grownBy (W.setCell ⟨wr.heap.size, 1, none⟩ vO) (some wr.heap.size) :=
  ⟨rfl, rfl, rfl, by simp [World.setCell], fun k hk hne => Below.heap_setCell _ ⟨wr.heap.size, 1, none⟩ _ _ (fun e => hne (by rw [e]))⟩
 have far : ∀ {n : Nat} {e : TypeId} {v : Value} {xs : List Value}, W.ownsRow (wr.heap.size + 1) e 1 v n xs → ∀ g, v.ownBlock = some g → some wr.heap.size ≠ some g := fun h g hv e => by
  have := (h.lt g hv).1; injection e with e; omega
 refine ⟨h.low.grown hg h.low.size (fun k e => by injection e with e; omega), h.box.set_ 1 vO, kept_own h.ownI hg (far h.ownI), kept_own h.ownO hg (far h.ownO), h.dis, fun p hp => ?_, fun p hp => by cases hp⟩
 obtain ⟨k1, k2⟩ := h.ints p (by simp only [List.append_nil] at hp; exact List.mem_append_left _ hp)
 exact ⟨kept_own k1 hg (far k1), k2⟩
/-- The list of a row that was there at the beginning. -/
theorem list_arm {wr W : World} {cI cO vI vO : Value} {LI LO L : Tracked} {B : List (Nat × Value)} (N rb : Nat) (p : ISet) (h : RS wr W cI cO vI vO LI LO L B) (hr : BRow wr rb N p) (hN : N ≤ 100000000) :
  Calls Tryz.prog 122 #[.slice (some ⟨rb, 0, none⟩) N N] W (fun e W' => ∃ A n c, e = .returned (.slice A n c) ∧ RS wr W' cI cO vI vO LI LO ((.slice A n c, listOf N p) :: L) B) := by
 refine (list20_any W rb N p (hr.below h.low hr.lt) hN).mono ?_
 rintro e W' ⟨v, he, ho, hbel⟩
 have hsh : ∃ A n c, v = .slice A n c := by
  rcases ho.2 with ⟨rfl, _⟩ | ⟨g, cap, cur, rfl, _⟩
  ·exact ⟨_, _, _, rfl⟩
  ·exact ⟨_, _, _, rfl⟩
 obtain ⟨A, n, c, rfl⟩ := hsh
 exact ⟨A, n, c, he, h.list hbel ho⟩
end Go.Proofs.YtkmfdiboekoioaaGreat.R20
