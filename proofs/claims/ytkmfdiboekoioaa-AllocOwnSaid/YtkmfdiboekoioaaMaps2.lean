/- Maps from int to int: their length; a range over one, in whatever order; a nil one. Conditions: the map's types are map, int and int. -/
import Derived.Test.YtkmfdiboekoioaaMaps
import Derived.Maps.Range
namespace Go.Proofs.Ytkmfdiboekoioaa
open Go.RowKit Go.MapKept Go.ChangeMaps

/-- How many keys a map has: n. -/
def CardIs (m : FMap) (n : Nat) : Prop := ∃ l : List Int, l.Nodup ∧ (∀ x, x ∈ l ↔ (m x).isSome = true) ∧ l.length = n

theorem nodup_le : ∀ (l l' : List Int), l.Nodup → (∀ x ∈ l, x ∈ l') → l.length ≤ l'.length
  | [], _, _, _ => by simp
  | a :: l, l', hn, hs => by
    obtain ⟨h1, h2⟩ := List.nodup_cons.1 hn
    have ha : a ∈ l' := hs a (by simp)
    have h3 : ∀ x ∈ l, x ∈ l'.erase a := fun x hx => (List.mem_erase_of_ne (fun (e : x = a) => h1 (e ▸ hx))).2 (hs x (by simp [hx]))
    have h4 := nodup_le l (l'.erase a) h2 h3
    have h5 := List.length_erase_of_mem ha
    have h6 : 0 < l'.length := List.length_pos_of_mem ha
    simp only [List.length_cons]
    omega
theorem CardIs.le {m m' : FMap} {n n' : Nat} (h : CardIs m n) (h' : CardIs m' n') (hs : ∀ x, (m x).isSome = true → (m' x).isSome = true) : n ≤ n' := by
  obtain ⟨l, h1, h2, rfl⟩ := h
  obtain ⟨l', h1', h2', rfl⟩ := h'
  exact nodup_le l l' h1 fun x hx => (h2' x).2 (hs x ((h2 x).1 hx))
theorem CardIs.one {m : FMap} {n n' : Nat} (h : CardIs m n) (h' : CardIs m n') : n = n' := Nat.le_antisymm (h.le h' fun _ h => h) (h'.le h fun _ h => h)
/-- As many keys, and each of the one's is one of the other's: the same keys. -/
theorem CardIs.back {m m' : FMap} {n : Nat} (h : CardIs m n) (h' : CardIs m' n) (hs : ∀ x, (m x).isSome = true → (m' x).isSome = true) (x : Int) (hx : (m' x).isSome = true) : (m x).isSome = true := by
  obtain ⟨l, h1, h2, h3⟩ := h
  obtain ⟨l', h1', h2', h3'⟩ := h'
  refine (h2 x).1 (Decidable.byContradiction fun hn => ?_)
  have := nodup_le (x :: l) l' (List.nodup_cons.2 ⟨hn, h1⟩) (fun y hy => by
    rcases List.mem_cons.1 hy with rfl | hy
    · exact (h2' _).2 hx
    · exact (h2' _).2 (hs y ((h2 y).1 hy)))
  simp only [List.length_cons] at this
  omega

def keyInt : Value → Int | .int _ x => x | _ => 0
theorem MapIs.card {es : Array MapEntry} {clock : Nat} {m : FMap} (h : MapIs es clock m) : CardIs m es.size := by
  refine ⟨es.toList.map (fun e => keyInt e.key), ?_, fun x => ?_, by simp⟩
  · rw [List.Nodup, List.pairwise_map]
    refine h.2.2.imp_of_mem ?_
    intro a b ha hb hab q
    obtain ⟨x, _, hx, _⟩ := h.1 a ha
    obtain ⟨y, _, hy, _⟩ := h.1 b hb
    rw [hx, hy] at q
    simp only [keyInt] at q
    exact hab.1 (by rw [hx, hy, q])
  · simp only [List.mem_map]
    constructor
    · rintro ⟨e, he, rfl⟩
      obtain ⟨x, y, hx, _, hm, _⟩ := h.1 e he
      rw [hx]; simp [keyInt, hm]
    · intro hx
      obtain ⟨y, hy⟩ := Option.isSome_iff_exists.1 hx
      obtain ⟨e, he, hk, _⟩ := h.2.1 x y hy
      exact ⟨e, he, by rw [hk]; rfl⟩

section
variable {P : Program} {w : World} {r : Nat} {m : FMap} {T K E : TypeId}

theorem IMap.len (h : IMap w r m) (ht : P.underlying T = some (.map K E)) : ∃ n : Nat, CardIs m n ∧ ∀ ty, (Builtin.len_ #[T] ty #[.map (some r)]).run P w = .ok (.int .i64 n) w := by
  obtain ⟨es, clock, hb, hm⟩ := h
  exact ⟨es.size, hm.card, fun ty => by simp [Builtin.len_, run_underlying ht, MapKept.run_getObj_map hb, goInt]⟩

/-- A range over the map r by the iterator it: left says which keys are still to come, cnt how many. -/
def Iter (w : World) (it r : Nat) (m : FMap) (left : Int → Bool) (cnt : Nat) : Prop :=
  ∃ es clock since seen c0, w.heap[r]? = some (.map es clock) ∧ MapIs es clock m ∧ w.heap[it]? = some (.mapIter (some r) since seen c0) ∧ (∀ e ∈ es.toList, e.born < since) ∧ since ≤ c0 ∧ since ≤ clock ∧
    (leftOf es seen).size = cnt ∧ (∀ e ∈ es.toList, ∀ x, e.key = .int .i64 x → left x = !seen.contains e.born) ∧ (∀ x, left x = true → (m x).isSome = true)

theorem Iter.map {it : Nat} {left : Int → Bool} {cnt : Nat} (h : Iter w it r m left cnt) : IMap w r m := by
  obtain ⟨es, clock, _, _, _, hb, hm, _⟩ := h
  exact ⟨es, clock, hb, hm⟩
theorem Iter.ne {it : Nat} {left : Int → Bool} {cnt : Nat} (h : Iter w it r m left cnt) : it ≠ r := by
  obtain ⟨es, clock, _, _, _, hb, hm, hi, _⟩ := h
  rintro rfl
  rw [hb] at hi; cases hi
theorem Iter.lt {it : Nat} {left : Int → Bool} {cnt : Nat} (h : Iter w it r m left cnt) : it < w.heap.size := by
  obtain ⟨es, clock, _, _, _, hb, hm, hi, _⟩ := h
  exact (Array.getElem?_eq_some_iff.1 hi).1
theorem Iter.same {w' : World} {it : Nat} {left : Int → Bool} {cnt : Nat} (h : Iter w it r m left cnt) (hr : w'.heap[r]? = w.heap[r]?) (hi : w'.heap[it]? = w.heap[it]?) : Iter w' it r m left cnt := by
  obtain ⟨es, clock, since, seen, c0, h1, h2, h3, h4⟩ := h
  exact ⟨es, clock, since, seen, c0, hr.trans h1, h2, hi.trans h3, h4⟩
theorem Iter.below {w' : World} {B it : Nat} {left : Int → Bool} {cnt : Nat} (h : Iter w it r m left cnt) (hb : Below B w w') (hr : r < B) (hi : it < B) : Iter w' it r m left cnt := h.same (hb.block r hr) (hb.block it hi)
theorem Iter.grown {w' : World} {it : Nat} {left : Int → Bool} {cnt : Nat} {row : Option Nat} (h : Iter w it r m left cnt) (hb : w.grownBy w' row) (hr : some r ≠ row) (hi : some it ≠ row) : Iter w' it r m left cnt :=
  h.same (hb.block r h.map.lt hr) (hb.block it h.lt hi)

/-- 'range m'. -/
theorem IMap.range (h : IMap w r m) (ht : P.underlying T = some (.map K E)) :
    ∃ cnt w1, (Instr.range T (.map (some r))).run P w = .ok (.pointer (some ⟨w.heap.size, 0, none⟩)) w1 ∧ Iter w1 w.heap.size r m (fun x => (m x).isSome) cnt ∧ w.grownBy w1 none ∧ w1.heap.size = w.heap.size + 1 := by
  have hlt := h.lt
  obtain ⟨es, clock, hb, hm⟩ := h
  refine ⟨_, _, run_range_map w T K E r es clock ht hb, ⟨es, clock, clock, #[], clock, ((MapKept.heap_alloc w _).2 r hlt).trans hb, hm, (MapKept.heap_alloc w _).1, fun e he => ?_, Nat.le_refl _, Nat.le_refl _, rfl, fun e he x hx => ?_, fun x hx => hx⟩, World.grownBy_alloc w _ none, by simp⟩
  · obtain ⟨_, _, _, _, _, hb⟩ := hm.1 e he
    exact hb
  · obtain ⟨x', y, hk, _, hm', _⟩ := hm.1 e he
    rw [hx] at hk
    injection hk with _ hk
    subst hk
    simp [hm']

/-- The step of a range. -/
theorem Iter.next {it : Nat} {left : Int → Bool} {cnt : Nat} (h : Iter w it r m left cnt) (ty : TypeId) :
    ((∀ x, left x = false) ∧ (Instr.next (.pointer (some ⟨it, 0, none⟩)) false ty).run P w = .ok (.tuple #[.bool false]) w) ∨
    ∃ x y w1 cnt', left x = true ∧ m x = some y ∧ (Instr.next (.pointer (some ⟨it, 0, none⟩)) false ty).run P w = .ok (.tuple #[.bool true, .int .i64 x, .int .i64 y]) w1 ∧
      Iter w1 it r m (fun z => left z && !(z == x)) cnt' ∧ cnt' < cnt ∧ w.grownBy w1 (some it) ∧ w1.heap.size = w.heap.size ∧ (Instr.entry (.pointer (some ⟨it, 0, none⟩))).run P w1 = .ok (.tuple #[.int .i64 x, .int .i64 y]) w1 := by
  have hne := h.ne
  obtain ⟨es, clock, since, seen, c0, hb, hm, hr, hold, hsc, hsk, rfl, hl1, hl2⟩ := h
  have hborn : ∀ a ∈ es.toList, ∀ b ∈ es.toList, a.born = b.born → a = b := fun a ha b hb' q => pw_eq hm.2.2 (fun _ _ h => ⟨Ne.symm h.1, Ne.symm h.2⟩) ha hb' (fun h => h.2 q)
  rcases run_next_at (P := P) w ty it r since c0 seen es clock hr hb hold hsc with ⟨h0, hrun⟩ | ⟨e, he, w1, hal, hrun⟩
  · refine Or.inl ⟨fun x => ?_, hrun⟩
    cases hk : left x
    · rfl
    · obtain ⟨y, hy⟩ := Option.isSome_iff_exists.1 (hl2 x hk)
      obtain ⟨a, ha, hka, _⟩ := hm.2.1 x y hy
      rw [hl1 a ha x hka, all_seen es seen h0 a ha] at hk
      cases hk
  · obtain ⟨hem, hes⟩ := mem_left he
    obtain ⟨x, y, hk, hv, hmx, _⟩ := hm.1 e hem
    have hr1 : w1.heap[it]? = some (.mapIter (some r) since seen c0) := by rcases hal with rfl | rfl <;> exact hr
    have hb1 : w1.heap[r]? = some (.map es clock) := by rcases hal with rfl | rfl <;> exact hb
    have hset := heap_set (o' := .mapIter (some r) since (seen.push e.born) clock) hr1
    have hb' : (setBlock w1 it (.mapIter (some r) since (seen.push e.born) clock)).heap[r]? = some (.map es clock) := (hset.2 r (fun e1 => hne e1.symm)).trans hb1
    have hnd : (es.toList.map (·.born)).Nodup := by
      rw [List.Nodup, List.pairwise_map]
      exact hm.2.2.imp (fun h => h.2)
    rw [hk, hv] at hrun
    have hent := run_entry_at (P := P) (setBlock w1 it (.mapIter (some r) since (seen.push e.born) clock)) it r since seen es clock e hset.1 hb' hem hnd
    rw [hk, hv] at hent
    refine Or.inr ⟨x, y, _, _, ?_, hmx, hrun, ⟨es, clock, since, seen.push e.born, clock, hb', hm, hset.1, hold, hsk, hsk, rfl, fun a ha z hz => ?_, fun z hz => hl2 z (by simp at hz; exact hz.1)⟩, left_shrinks es seen e he, ?_, ?_, hent⟩
    · rw [hl1 e hem x hk, hes]; rfl
    · show (left z && !(z == x)) = _
      rw [hl1 a ha z hz, contains_push]
      have : (z == x) = (a.born == e.born) := by
        rw [Bool.eq_iff_iff]
        simp only [beq_iff_eq]
        constructor
        · rintro rfl
          rw [hm.keyOne ha hem (by rw [hz, hk])]
        · intro q
          have := hborn a ha e hem q
          subst this
          rw [hz] at hk
          injection hk
      rw [this]
      cases seen.contains a.born <;> cases (a.born == e.born) <;> rfl
    · rcases hal with rfl | rfl <;> exact ⟨rfl, rfl, rfl, by simp [setBlock], fun i _ hi => hset.2 i (fun e1 => hi (by rw [e1]))⟩
    · rcases hal with rfl | rfl <;> simp [setBlock]
end
end Go.Proofs.Ytkmfdiboekoioaa
