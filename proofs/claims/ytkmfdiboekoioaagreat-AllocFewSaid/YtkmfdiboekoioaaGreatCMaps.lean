/- Maps from int to int that the code makes, as functions: what each operation does to them. Conditions: the map's types are map, int and int. -/
import Derived.Test.YtkmfdiboekoioaaGreatCBase
import Derived.MapKept
import Derived.Carry
import Derived.Maps.RangeRun
import Derived.OwnWalk
import Derived.Maps.AppendAt
import Derived.Maps.Range
import Derived.BigQuiet
import Derived.Deep.LoopGhost
set_option linter.unusedSimpArgs false
set_option linter.unusedVariables false
namespace Go.Proofs.YtkmfdiboekoioaaGreat
open Go.RowKit Go.MapKept

abbrev FMap := Int → Option Int
def FMap.put (m : FMap) (x y : Int) : FMap := fun z => if z = x then some y else m z
def FMap.del (m : FMap) (x : Int) : FMap := fun z => if z = x then none else m z
def FMap.none_ : FMap := fun _ => none

def MapIs (es : Array MapEntry) (clock : Nat) (m : FMap) : Prop :=
 (∀ e ∈ es.toList, ∃ x y : Int, e.key = .int .i64 x ∧ e.val = .int .i64 y ∧ m x = some y ∧ e.born < clock) ∧
 (∀ x y, m x = some y → ∃ e ∈ es.toList, e.key = .int .i64 x ∧ e.val = .int .i64 y) ∧
 es.toList.Pairwise (fun a b => a.key ≠ b.key ∧ a.born ≠ b.born)

def IMap (w : World) (r : Nat) (m : FMap) : Prop := ∃ es clock, w.heap[r]? = some (.map es clock) ∧ MapIs es clock m

theorem pw_eq {α : Type} {R : α → α → Prop} {l : List α} (hp : l.Pairwise R) (hs : ∀ a b, R a b → R b a) {a b : α} (ha : a ∈ l) (hb : b ∈ l) (h : ¬ R a b) : a = b := by
 induction l with
 | nil => cases ha
 | cons c l ih =>
  obtain ⟨h1, h2⟩ := List.pairwise_cons.1 hp
  rcases List.mem_cons.1 ha with e1 | ha'
  ·rcases List.mem_cons.1 hb with e2 | hb'
   ·rw [e1, e2]
   ·exact absurd (e1 ▸ h1 _ hb') h
  ·rcases List.mem_cons.1 hb with e2 | hb'
   ·exact absurd (hs _ _ (e2 ▸ h1 _ ha')) h
   ·exact ih h2 ha' hb'

theorem MapIs.keyOne {es : Array MapEntry} {clock : Nat} {m : FMap} (h : MapIs es clock m) {a b : MapEntry} (ha : a ∈ es.toList) (hb : b ∈ es.toList) (hk : a.key = b.key) : a = b :=
 pw_eq h.2.2 (fun _ _ h => ⟨Ne.symm h.1, Ne.symm h.2⟩) ha hb (fun h => h.1 hk)

theorem IMap.lt {w : World} {r : Nat} {m : FMap} (h : IMap w r m) : r < w.heap.size := by
 obtain ⟨es, clock, hb, _⟩ := h
 exact (Array.getElem?_eq_some_iff.1 hb).1
theorem IMap.same {w w' : World} {r : Nat} {m : FMap} (h : IMap w r m) (hk : w'.heap[r]? = w.heap[r]?) : IMap w' r m := by
 obtain ⟨es, clock, hb, hm⟩ := h
 exact ⟨es, clock, hk.trans hb, hm⟩
theorem IMap.below {w w' : World} {r B : Nat} {m : FMap} (h : IMap w r m) (hb : Below B w w') (hr : r < B) : IMap w' r m := h.same (hb.block r hr)
theorem IMap.grown {w w' : World} {r : Nat} {m : FMap} {row : Option Nat} (h : IMap w r m) (hb : w.grownBy w' row) (hr : some r ≠ row) : IMap w' r m := h.same (hb.block r h.lt hr)
theorem IMap.alloc {w : World} {r : Nat} {m : FMap} (h : IMap w r m) (o : Obj) : IMap (w.alloc o) r m := h.same (Below.heap_alloc w o r h.lt)
theorem IMap.drew {w : World} {r : Nat} {m : FMap} (h : IMap w r m) : IMap w.drew r m := h
theorem IMap.drewN {w : World} {r : Nat} {m : FMap} (h : IMap w r m) (n : Nat) : IMap (w.drewN n) r m := h
theorem IMap.setCell {w : World} {r : Nat} {m : FMap} (h : IMap w r m) (p : Addr) (u : Value) : IMap (w.setCell p u) r m := by
 obtain ⟨es, clock, hb, hm⟩ := h
 by_cases e : r = p.block
 ·refine ⟨es, clock, ?_, hm⟩
  subst e
  simp [World.setCell, Array.getElem?_modify, hb]
 ·exact ⟨es, clock, (Below.heap_setCell w p u r e).trans hb, hm⟩
theorem IMap.made (w : World) : IMap (w.alloc (.map #[] 0)) w.heap.size FMap.none_ :=
 ⟨#[], 0, heap_alloc_new w _, by simp, fun x y h => by simp [FMap.none_] at h, by simp⟩
/-- Where a map lies no cell lies. -/
theorem IMap.noCell {w : World} {r : Nat} {m : FMap} (h : IMap w r m) {p : Addr} {v : Value} (hc : w.cell? p = some v) : p.block ≠ r := by
 rintro e
 obtain ⟨es, clock, hb, _⟩ := h
 simp [World.cell?, e, hb] at hc

/-- Behind a write to a map's block every cell reads as it did. -/
theorem cell_mapturn {w w' : World} {r : Nat} {m : FMap} (h : IMap w r m) (h' : w'.heap[r]? = none ∨ ∃ m', IMap w' r m') (hg : w.grownBy w' (some r)) {p : Addr} (hp : p.block < w.heap.size) : w'.cell? p = w.cell? p := by
 by_cases e : p.block = r
 ·obtain ⟨es, clock, hb, _⟩ := h
  have e1 : w.cell? p = none := by simp [World.cell?, e, hb]
  rcases h' with h' | ⟨m', es', clock', hb', _⟩
  ·rw [e1]; simp [World.cell?, e, h']
  ·rw [e1]; simp [World.cell?, e, hb']
 ·exact World.cell?_of_block (hg.block p.block hp (fun q => e (by injection q)))

section
variable {P : Program} {w : World} {r : Nat} {m : FMap} {T K E : TypeId}

theorem MapIs.find {es : Array MapEntry} {clock : Nat} (h : MapIs es clock m) (x : Int) :
  (Instr.findNow (.int .i64) (.int .i64 x) es.toList 0 = some none ∧ m x = none ∧ ∀ e ∈ es.toList, e.key ≠ .int .i64 x) ∨
  ∃ j e y, Instr.findNow (.int .i64) (.int .i64 x) es.toList 0 = some (some (j, .int .i64 y)) ∧ es.toList[j]? = some e ∧ e.key = .int .i64 x ∧ e.val = .int .i64 y ∧ m x = some y ∧ e.born < clock := by
 have hks : ∀ e ∈ es.toList, IsKey (.int .i64) e.key := fun e he => by
  obtain ⟨x, y, hk, _⟩ := h.1 e he
  rw [hk]; rfl
 rcases findNow_spec (d := .int .i64) (k := .int .i64 x) rfl es.toList 0 hks with ⟨h1, h2⟩ | ⟨j, e, h1, h2, h3⟩
 ·refine .inl ⟨h1, ?_, h2⟩
  cases hm : m x with
  | none => rfl
  | some y =>
   obtain ⟨e, he, hk, _⟩ := h.2.1 x y hm
   exact absurd hk (h2 e he)
 ·have he : e ∈ es.toList := List.mem_of_getElem? h2
  obtain ⟨x', y, hk, hv, hm, hb⟩ := h.1 e he
  rw [h3] at hk
  injection hk with _ hk
  subst hk
  rw [Nat.zero_add, hv] at h1
  exact .inr ⟨j, e, y, h1, h2, h3, hv, hm, hb⟩

theorem grownBy_set {es : Array MapEntry} {clock : Nat} (hb : w.heap[r]? = some (.map es clock)) (o : Obj) : w.grownBy { w with heap := w.heap.setIfInBounds r o } (some r) :=
 ⟨rfl, rfl, rfl, by simp, fun i _ hne => (heap_set (o' := o) hb).2 i (fun e => hne (by rw [e]))⟩

theorem MapIs.push {es : Array MapEntry} {clock : Nat} (h : MapIs es clock m) {x : Int} (hn : ∀ e ∈ es.toList, e.key ≠ .int .i64 x) (y : Int) :
  MapIs (es.push { key := .int .i64 x, val := .int .i64 y, born := clock }) (clock + 1) (m.put x y) := by
 refine ⟨fun e he => ?_, fun z v hz => ?_, ?_⟩
 ·simp only [Array.toList_push, List.mem_append, List.mem_singleton] at he
  rcases he with he | rfl
  ·obtain ⟨a, b, hk, hv, hm, hb⟩ := h.1 e he
   refine ⟨a, b, hk, hv, ?_, by omega⟩
   have : a ≠ x := fun q => hn e he (by rw [hk, q])
   simp [FMap.put, this, hm]
  ·exact ⟨x, y, rfl, rfl, by simp [FMap.put], by simp⟩
 ·by_cases q : z = x
  ·subst q
   simp only [FMap.put, if_true] at hz
   injection hz with hz
   subst hz
   exact ⟨{ key := .int .i64 z, val := .int .i64 y, born := clock }, by simp, rfl, rfl⟩
  ·simp only [FMap.put, q, if_false] at hz
   obtain ⟨e, he, hk⟩ := h.2.1 z v hz
   exact ⟨e, by simp only [Array.toList_push, List.mem_append]; exact .inl he, hk⟩
 ·simp only [Array.toList_push]
  rw [List.pairwise_append]
  refine ⟨h.2.2, by simp, fun a ha b hb => ?_⟩
  simp only [List.mem_singleton] at hb
  subst hb
  obtain ⟨_, _, _, _, _, hlt⟩ := h.1 a ha
  exact ⟨hn a ha, by simp only [ne_eq]; omega⟩

theorem modify_list {es : Array MapEntry} {j : Nat} {e : MapEntry} (hj : es.toList[j]? = some e) (f : MapEntry → MapEntry) :
  (es.modify j f).toList = es.toList.set j (f e) := by
 rw [Array.toList_modify]
 apply List.ext_getElem?
 intro i
 rw [List.getElem?_modify, List.getElem?_set]
 by_cases q : j = i
 ·subst q
  have hlt : j < es.toList.length := (List.getElem?_eq_some_iff.1 hj).1
  simp only [if_true, hj, hlt]
  rfl
 ·simp [q]

theorem mem_set {α : Type} {l : List α} {j : Nat} {a b : α} (h : a ∈ l.set j b) : a = b ∨ ∃ i, i ≠ j ∧ l[i]? = some a := by
 obtain ⟨i, hi⟩ := List.mem_iff_getElem?.1 h
 rw [List.getElem?_set] at hi
 by_cases q : j = i
 ·subst q
  simp only [if_true] at hi
  split at hi
  ·injection hi with hi; exact .inl hi.symm
  ·cases hi
 ·simp only [q, if_false] at hi
  exact .inr ⟨i, Ne.symm q, hi⟩

theorem MapIs.set_ {es : Array MapEntry} {clock : Nat} (h : MapIs es clock m) {x : Int} {j : Nat} {e : MapEntry} (hj : es.toList[j]? = some e) (hk : e.key = .int .i64 x) (y : Int) {es' : Array MapEntry}
  (hes : es'.toList = es.toList.set j { e with key := .int .i64 x, val := .int .i64 y }) : MapIs es' clock (m.put x y) := by
 have he : e ∈ es.toList := List.mem_of_getElem? hj
 have hlt : j < es.toList.length := (List.getElem?_eq_some_iff.1 hj).1
 have hnj : ∀ i a, i ≠ j → es.toList[i]? = some a → a.key ≠ .int .i64 x := fun i a hi ha q => by
  have h1 := h.2.2
  rw [List.pairwise_iff_getElem] at h1
  obtain ⟨hil, hia⟩ := List.getElem?_eq_some_iff.1 ha
  obtain ⟨_, hje⟩ := List.getElem?_eq_some_iff.1 hj
  rcases Nat.lt_or_gt_of_ne hi with q' | q'
  ·exact (h1 i j hil hlt q').1 (by rw [hia, hje, q, hk])
  ·exact (h1 j i hlt hil q').1 (by rw [hia, hje, q, hk])
 refine ⟨fun a ha => ?_, fun z v hz => ?_, ?_⟩
 ·rw [hes] at ha
  rcases mem_set ha with rfl | ⟨i, hi, ha⟩
  ·obtain ⟨_, _, _, _, _, hb⟩ := h.1 e he
   exact ⟨x, y, rfl, rfl, by simp [FMap.put], hb⟩
  ·obtain ⟨a1, b1, hk1, hv1, hm1, hb1⟩ := h.1 a (List.mem_of_getElem? ha)
   have : a1 ≠ x := fun q => hnj i a hi ha (by rw [hk1, q])
   exact ⟨a1, b1, hk1, hv1, by simp [FMap.put, this, hm1], hb1⟩
 ·rw [hes]
  by_cases q : z = x
  ·subst q
   simp only [FMap.put, if_true] at hz
   injection hz with hz
   subst hz
   exact ⟨_, List.mem_set hlt _, rfl, rfl⟩
  ·simp only [FMap.put, q, if_false] at hz
   obtain ⟨a, ha, hka, hva⟩ := h.2.1 z v hz
   obtain ⟨i, hi⟩ := List.mem_iff_getElem?.1 ha
   refine ⟨a, ?_, hka, hva⟩
   have hij : j ≠ i := by
    rintro rfl
    rw [hj] at hi
    injection hi with hi
    subst hi
    rw [hk] at hka
    injection hka with _ hka
    exact q hka.symm
   exact List.mem_iff_getElem?.2 ⟨i, by rw [List.getElem?_set]; simp [hij, hi]⟩
 ·rw [hes]
  have h1 := h.2.2
  rw [List.pairwise_iff_getElem] at h1 ⊢
  obtain ⟨_, hje⟩ := List.getElem?_eq_some_iff.1 hj
  intro i k hi hk' hik
  simp only [List.length_set] at hi hk'
  have h2 := h1 i k hi hk' hik
  simp only [List.getElem_set]
  by_cases q1 : j = i
  ·subst q1
   have : ¬ j = k := by omega
   simp only [if_true, this, if_false]
   rw [hje] at h2
   exact ⟨fun q => h2.1 (hk.trans q), h2.2⟩
  ·by_cases q2 : j = k
   ·subst q2
    simp only [q1, if_false, if_true]
    rw [hje] at h2
    exact ⟨fun q => h2.1 (q.trans hk.symm), h2.2⟩
   ·simp only [q1, q2, if_false]
    exact h2

/-- 'm[x] = y'. -/
theorem IMap.update (h : IMap w r m) (ht : P.underlying T = some (.map K E)) (hk : P.underlying K = some (.int .i64)) (x y : Int) :
  ∃ w1, (Instr.mapUpdate T (.map (some r)) (.int .i64 x) (.int .i64 y)).run P w = .ok () w1 ∧ IMap w1 r (m.put x y) ∧ w.grownBy w1 (some r) ∧ w1.heap.size = w.heap.size := by
 obtain ⟨es, clock, hb, hm⟩ := h
 have hkey : IsKey (.int .i64) (.int .i64 x) := rfl
 rcases hm.find x with ⟨h1, h2, h3⟩ | ⟨j, e, v, h1, h2, h3, h4, h5, h6⟩
 ·refine ⟨_, ?_, ⟨_, _, (heap_set hb).1, hm.push h3 y⟩, grownBy_set hb _, by simp⟩
  simp [Instr.mapUpdate, run_underlying ht, MapKept.run_getObj_map hb, run_checkKey hk hkey, run_findKey hk h1, run_setObj_map _ hb, Result.andThen]
 ·have he2 : es[j]? = some e := by rw [← Array.getElem?_toList]; exact h2
  have hkt : (Instr.keyThatStays (.int .i64 x) (.int .i64 x)).run P w = .ok (.int .i64 x) w := run_keyThatStays hkey
  refine ⟨_, ?_, ⟨_, _, (heap_set hb).1, hm.set_ h2 h3 y (modify_list h2 (fun e => { key := .int .i64 x, val := .int .i64 y, born := e.born }))⟩, grownBy_set hb _, by simp⟩
  simp [Instr.mapUpdate, run_underlying ht, MapKept.run_getObj_map hb, run_checkKey hk hkey, run_findKey hk h1, run_setObj_map _ hb, Result.andThen, he2, h3, hkt]

/-- 'm[x]', 'v, ok := m[x]'. -/
theorem IMap.look (h : IMap w r m) (ht : P.underlying T = some (.map K E)) (hk : P.underlying K = some (.int .i64)) (hz : (zeroValue E).run P w = .ok (.int .i64 0) w) (x : Int) :
  (Instr.lookup T (.map (some r)) (.int .i64 x) false).run P w = .ok (.int .i64 ((m x).getD 0)) w ∧
  (Instr.lookup T (.map (some r)) (.int .i64 x) true).run P w = .ok (.tuple #[.int .i64 ((m x).getD 0), .bool (m x).isSome]) w := by
 obtain ⟨es, clock, hb, hm⟩ := h
 have hkey : IsKey (.int .i64) (.int .i64 x) := rfl
 rcases hm.find x with ⟨h1, h2, h3⟩ | ⟨j, e, v, h1, h2, h3, h4, h5, h6⟩
 ·simp [Instr.lookup, run_underlying ht, MapKept.run_getObj_map hb, run_checkKey hk hkey, run_findKey hk h1, Result.andThen, hz, h2]
 ·simp [Instr.lookup, run_underlying ht, MapKept.run_getObj_map hb, run_checkKey hk hkey, run_findKey hk h1, Result.andThen, h5]

theorem MapIs.erase {es : Array MapEntry} {clock : Nat} (h : MapIs es clock m) {x : Int} {j : Nat} {e : MapEntry} (hj : es.toList[j]? = some e) (hk : e.key = .int .i64 x) {es' : Array MapEntry}
  (hes : es'.toList = es.toList.eraseIdx j) : MapIs es' clock (m.del x) := by
 have he : e ∈ es.toList := List.mem_of_getElem? hj
 have hsub : es'.toList.Sublist es.toList := by rw [hes]; exact List.eraseIdx_sublist _ _
 have hne : ∀ a ∈ es'.toList, a.key ≠ .int .i64 x := fun a ha q => by
  have hlt : j < es.toList.length := (List.getElem?_eq_some_iff.1 hj).1
  rw [hes] at ha
  obtain ⟨i, hi⟩ := List.mem_iff_getElem?.1 ha
  rw [List.getElem?_eraseIdx] at hi
  have h1 := h.2.2
  rw [List.pairwise_iff_getElem] at h1
  obtain ⟨_, hje⟩ := List.getElem?_eq_some_iff.1 hj
  split at hi
  ·rename_i hij
   obtain ⟨hil, hia⟩ := List.getElem?_eq_some_iff.1 hi
   exact (h1 i j hil hlt hij).1 (by rw [hia, hje, q, hk])
  ·rename_i hij
   obtain ⟨hil, hia⟩ := List.getElem?_eq_some_iff.1 hi
   exact (h1 j (i + 1) hlt hil (by omega)).1 (by rw [hia, hje, q, hk])
 refine ⟨fun a ha => ?_, fun z v hz => ?_, h.2.2.sublist hsub⟩
 ·obtain ⟨a1, b1, hk1, hv1, hm1, hb1⟩ := h.1 a (hsub.subset ha)
  have : a1 ≠ x := fun q => hne a ha (by rw [hk1, q])
  exact ⟨a1, b1, hk1, hv1, by simp [FMap.del, this, hm1], hb1⟩
 ·by_cases q : z = x
  ·simp [FMap.del, q] at hz
  ·simp only [FMap.del, q, if_false] at hz
   obtain ⟨a, ha, hka, hva⟩ := h.2.1 z v hz
   obtain ⟨i, hi⟩ := List.mem_iff_getElem?.1 ha
   refine ⟨a, ?_, hka, hva⟩
   have hij : i ≠ j := by
    rintro rfl
    rw [hj] at hi
    injection hi with hi
    subst hi
    rw [hk] at hka
    injection hka with _ hka
    exact q hka.symm
   rw [hes]
   refine List.mem_iff_getElem?.2 ?_
   by_cases hlt : i < j
   ·exact ⟨i, by rw [List.getElem?_eraseIdx]; simp [hlt, hi]⟩
   ·exact ⟨i - 1, by rw [List.getElem?_eraseIdx]; rw [if_neg (by omega)]; rw [show i - 1 + 1 = i from by omega]; exact hi⟩

/-- 'delete(m, x)'. -/
theorem IMap.delete (h : IMap w r m) (ht : P.underlying T = some (.map K E)) (hk : P.underlying K = some (.int .i64)) (ty K' : TypeId) (x : Int) :
  ∃ w1, (Builtin.delete_ #[T, K'] ty #[.map (some r), .int .i64 x]).run P w = .ok (.tuple #[]) w1 ∧ IMap w1 r (m.del x) ∧ w.grownBy w1 (some r) ∧ w1.heap.size = w.heap.size := by
 obtain ⟨es, clock, hb, hm⟩ := h
 have hkey : IsKey (.int .i64) (.int .i64 x) := rfl
 rcases hm.find x with ⟨h1, h2, h3⟩ | ⟨j, e, v, h1, h2, h3, h4, h5, h6⟩
 ·have hd : m.del x = m := by
   funext z
   by_cases q : z = x
   ·simp [FMap.del, q, h2]
   ·simp [FMap.del, q]
  refine ⟨_, ?_, ⟨es, clock, (heap_set hb).1, by rw [hd]; exact hm⟩, grownBy_set hb _, by simp⟩
  simp [Builtin.delete_, run_underlying ht, MapKept.run_getObj_map hb, run_checkKey hk hkey, run_findKey hk h1, run_setObj_map _ hb, Result.andThen]
 ·refine ⟨_, ?_, ⟨_, clock, (heap_set hb).1, hm.erase h2 h3 (es' := es.eraseIdxIfInBounds j) (by simp)⟩, grownBy_set hb _, by simp⟩
  simp [Builtin.delete_, run_underlying ht, MapKept.run_getObj_map hb, run_checkKey hk hkey, run_findKey hk h1, run_setObj_map _ hb, Result.andThen]

end
end Go.Proofs.YtkmfdiboekoioaaGreat

/- Maps from int to int: their length; a range over one, in whatever order; a nil one. Conditions: the map's types are map, int and int. -/
namespace Go.Proofs.YtkmfdiboekoioaaGreat
open Go.RowKit Go.MapKept Go.ChangeMaps

/-- How many keys a map has: n. -/
def CardIs (m : FMap) (n : Nat) : Prop := ∃ l : List Int, l.Nodup ∧ (∀ x, x ∈ l ↔ (m x).isSome = true) ∧ l.length = n

theorem nodup_le : ∀ (l l' : List Int), l.Nodup → (∀ x ∈ l, x ∈ l') → l.length ≤ l'.length
 | [], _, _, _ => by simp
 | a :: l, l', hn, hs => by
  obtain ⟨h1, h2⟩ := List.nodup_cons.1 hn
  have ha : a ∈ l' := hs a (by simp)
  have h3 : ∀ x ∈ l, x ∈ l'.erase a := fun x hx => (List.mem_erase_of_ne (fun (e : x = a) => h1 (e ▸ hx))).2 (hs x (by simp [hx]))
  have h4 := nodup_le l (l'.erase a) h2 h3
  have h5 := List.length_erase_of_mem ha
  have h6 : 0 < l'.length := List.length_pos_of_mem ha
  simp only [List.length_cons]
  omega
theorem CardIs.le {m m' : FMap} {n n' : Nat} (h : CardIs m n) (h' : CardIs m' n') (hs : ∀ x, (m x).isSome = true → (m' x).isSome = true) : n ≤ n' := by
 obtain ⟨l, h1, h2, rfl⟩ := h
 obtain ⟨l', h1', h2', rfl⟩ := h'
 exact nodup_le l l' h1 fun x hx => (h2' x).2 (hs x ((h2 x).1 hx))
theorem CardIs.one {m : FMap} {n n' : Nat} (h : CardIs m n) (h' : CardIs m n') : n = n' := Nat.le_antisymm (h.le h' fun _ h => h) (h'.le h fun _ h => h)
/-- As many keys, and each of the one's is one of the other's: the same keys. -/
theorem CardIs.back {m m' : FMap} {n : Nat} (h : CardIs m n) (h' : CardIs m' n) (hs : ∀ x, (m x).isSome = true → (m' x).isSome = true) (x : Int) (hx : (m' x).isSome = true) : (m x).isSome = true := by
 obtain ⟨l, h1, h2, h3⟩ := h
 obtain ⟨l', h1', h2', h3'⟩ := h'
 refine (h2 x).1 (Decidable.byContradiction fun hn => ?_)
 have := nodup_le (x :: l) l' (List.nodup_cons.2 ⟨hn, h1⟩) (fun y hy => by
  rcases List.mem_cons.1 hy with rfl | hy
  ·exact (h2' _).2 hx
  ·exact (h2' _).2 (hs y ((h2 y).1 hy)))
 simp only [List.length_cons] at this
 omega

def keyInt : Value → Int | .int _ x => x | _ => 0
theorem MapIs.card {es : Array MapEntry} {clock : Nat} {m : FMap} (h : MapIs es clock m) : CardIs m es.size := by
 refine ⟨es.toList.map (fun e => keyInt e.key), ?_, fun x => ?_, by simp⟩
 ·rw [List.Nodup, List.pairwise_map]
  refine h.2.2.imp_of_mem ?_
  intro a b ha hb hab q
  obtain ⟨x, _, hx, _⟩ := h.1 a ha
  obtain ⟨y, _, hy, _⟩ := h.1 b hb
  rw [hx, hy] at q
  simp only [keyInt] at q
  exact hab.1 (by rw [hx, hy, q])
 ·simp only [List.mem_map]
  constructor
  ·rintro ⟨e, he, rfl⟩
   obtain ⟨x, y, hx, _, hm, _⟩ := h.1 e he
   rw [hx]; simp [keyInt, hm]
  ·intro hx
   obtain ⟨y, hy⟩ := Option.isSome_iff_exists.1 hx
   obtain ⟨e, he, hk, _⟩ := h.2.1 x y hy
   exact ⟨e, he, by rw [hk]; rfl⟩

section
variable {P : Program} {w : World} {r : Nat} {m : FMap} {T K E : TypeId}

theorem IMap.len (h : IMap w r m) (ht : P.underlying T = some (.map K E)) : ∃ n : Nat, CardIs m n ∧ ∀ ty, (Builtin.len_ #[T] ty #[.map (some r)]).run P w = .ok (.int .i64 n) w := by
 obtain ⟨es, clock, hb, hm⟩ := h
 exact ⟨es.size, hm.card, fun ty => by simp [Builtin.len_, run_underlying ht, MapKept.run_getObj_map hb, goInt]⟩

/-- A range over the map r by the iterator it: left says which keys are still to come, cnt how many. -/
def Iter (w : World) (it r : Nat) (m : FMap) (left : Int → Bool) (cnt : Nat) : Prop :=
 ∃ es clock since seen c0, w.heap[r]? = some (.map es clock) ∧ MapIs es clock m ∧ w.heap[it]? = some (.mapIter (some r) since seen c0) ∧ (∀ e ∈ es.toList, e.born < since) ∧ since ≤ c0 ∧ since ≤ clock ∧
  (leftOf es seen).size = cnt ∧ (∀ e ∈ es.toList, ∀ x, e.key = .int .i64 x → left x = !seen.contains e.born) ∧ (∀ x, left x = true → (m x).isSome = true)

theorem Iter.map {it : Nat} {left : Int → Bool} {cnt : Nat} (h : Iter w it r m left cnt) : IMap w r m := by
 obtain ⟨es, clock, _, _, _, hb, hm, _⟩ := h
 exact ⟨es, clock, hb, hm⟩
theorem Iter.ne {it : Nat} {left : Int → Bool} {cnt : Nat} (h : Iter w it r m left cnt) : it ≠ r := by
 obtain ⟨es, clock, _, _, _, hb, hm, hi, _⟩ := h
 rintro rfl
 rw [hb] at hi; cases hi
theorem Iter.lt {it : Nat} {left : Int → Bool} {cnt : Nat} (h : Iter w it r m left cnt) : it < w.heap.size := by
 obtain ⟨es, clock, _, _, _, hb, hm, hi, _⟩ := h
 exact (Array.getElem?_eq_some_iff.1 hi).1
theorem Iter.same {w' : World} {it : Nat} {left : Int → Bool} {cnt : Nat} (h : Iter w it r m left cnt) (hr : w'.heap[r]? = w.heap[r]?) (hi : w'.heap[it]? = w.heap[it]?) : Iter w' it r m left cnt := by
 obtain ⟨es, clock, since, seen, c0, h1, h2, h3, h4⟩ := h
 exact ⟨es, clock, since, seen, c0, hr.trans h1, h2, hi.trans h3, h4⟩
theorem Iter.below {w' : World} {B it : Nat} {left : Int → Bool} {cnt : Nat} (h : Iter w it r m left cnt) (hb : Below B w w') (hr : r < B) (hi : it < B) : Iter w' it r m left cnt := h.same (hb.block r hr) (hb.block it hi)
theorem Iter.grown {w' : World} {it : Nat} {left : Int → Bool} {cnt : Nat} {row : Option Nat} (h : Iter w it r m left cnt) (hb : w.grownBy w' row) (hr : some r ≠ row) (hi : some it ≠ row) : Iter w' it r m left cnt :=
 h.same (hb.block r h.map.lt hr) (hb.block it h.lt hi)

/-- 'range m'. -/
theorem IMap.range (h : IMap w r m) (ht : P.underlying T = some (.map K E)) :
  ∃ cnt w1, (Instr.range T (.map (some r))).run P w = .ok (.pointer (some ⟨w.heap.size, 0, none⟩)) w1 ∧ Iter w1 w.heap.size r m (fun x => (m x).isSome) cnt ∧ w.grownBy w1 none ∧ w1.heap.size = w.heap.size + 1 := by
 have hlt := h.lt
 obtain ⟨es, clock, hb, hm⟩ := h
 refine ⟨_, _, run_range_map w T K E r es clock ht hb, ⟨es, clock, clock, #[], clock, ((MapKept.heap_alloc w _).2 r hlt).trans hb, hm, (MapKept.heap_alloc w _).1, fun e he => ?_, Nat.le_refl _, Nat.le_refl _, rfl, fun e he x hx => ?_, fun x hx => hx⟩, World.grownBy_alloc w _ none, by simp⟩
 ·obtain ⟨_, _, _, _, _, hb⟩ := hm.1 e he
  exact hb
 ·obtain ⟨x', y, hk, _, hm', _⟩ := hm.1 e he
  rw [hx] at hk
  injection hk with _ hk
  subst hk
  simp [hm']

/-- The step of a range. -/
theorem Iter.next {it : Nat} {left : Int → Bool} {cnt : Nat} (h : Iter w it r m left cnt) (ty : TypeId) :
  ((∀ x, left x = false) ∧ (Instr.next (.pointer (some ⟨it, 0, none⟩)) false ty).run P w = .ok (.tuple #[.bool false]) w) ∨
  ∃ x y w1 cnt', left x = true ∧ m x = some y ∧ (Instr.next (.pointer (some ⟨it, 0, none⟩)) false ty).run P w = .ok (.tuple #[.bool true, .int .i64 x, .int .i64 y]) w1 ∧
   Iter w1 it r m (fun z => left z && !(z == x)) cnt' ∧ cnt' < cnt ∧ w.grownBy w1 (some it) ∧ w1.heap.size = w.heap.size ∧ (Instr.entry (.pointer (some ⟨it, 0, none⟩))).run P w1 = .ok (.tuple #[.int .i64 x, .int .i64 y]) w1 := by
 have hne := h.ne
 obtain ⟨es, clock, since, seen, c0, hb, hm, hr, hold, hsc, hsk, rfl, hl1, hl2⟩ := h
 have hborn : ∀ a ∈ es.toList, ∀ b ∈ es.toList, a.born = b.born → a = b := fun a ha b hb' q => pw_eq hm.2.2 (fun _ _ h => ⟨Ne.symm h.1, Ne.symm h.2⟩) ha hb' (fun h => h.2 q)
 rcases run_next_at (P := P) w ty it r since c0 seen es clock hr hb hold hsc with ⟨h0, hrun⟩ | ⟨e, he, w1, hal, hrun⟩
 ·refine Or.inl ⟨fun x => ?_, hrun⟩
  cases hk : left x
  ·rfl
  ·obtain ⟨y, hy⟩ := Option.isSome_iff_exists.1 (hl2 x hk)
   obtain ⟨a, ha, hka, _⟩ := hm.2.1 x y hy
   rw [hl1 a ha x hka, all_seen es seen h0 a ha] at hk
   cases hk
 ·obtain ⟨hem, hes⟩ := mem_left he
  obtain ⟨x, y, hk, hv, hmx, _⟩ := hm.1 e hem
  have hr1 : w1.heap[it]? = some (.mapIter (some r) since seen c0) := by rcases hal with rfl | rfl <;> exact hr
  have hb1 : w1.heap[r]? = some (.map es clock) := by rcases hal with rfl | rfl <;> exact hb
  have hset := heap_set (o' := .mapIter (some r) since (seen.push e.born) clock) hr1
  have hb' : (setBlock w1 it (.mapIter (some r) since (seen.push e.born) clock)).heap[r]? = some (.map es clock) := (hset.2 r (fun e1 => hne e1.symm)).trans hb1
  have hnd : (es.toList.map (·.born)).Nodup := by
   rw [List.Nodup, List.pairwise_map]
   exact hm.2.2.imp (fun h => h.2)
  rw [hk, hv] at hrun
  have hent := run_entry_at (P := P) (setBlock w1 it (.mapIter (some r) since (seen.push e.born) clock)) it r since seen es clock e hset.1 hb' hem hnd
  rw [hk, hv] at hent
  refine Or.inr ⟨x, y, _, _, ?_, hmx, hrun, ⟨es, clock, since, seen.push e.born, clock, hb', hm, hset.1, hold, hsk, hsk, rfl, fun a ha z hz => ?_, fun z hz => hl2 z (by simp at hz; exact hz.1)⟩, left_shrinks es seen e he, ?_, ?_, hent⟩
  ·rw [hl1 e hem x hk, hes]; rfl
  ·show (left z && !(z == x)) = _
   rw [hl1 a ha z hz, contains_push]
   have : (z == x) = (a.born == e.born) := by
    rw [Bool.eq_iff_iff]
    simp only [beq_iff_eq]
    constructor
    ·rintro rfl
     rw [hm.keyOne ha hem (by rw [hz, hk])]
    ·intro q
     have := hborn a ha e hem q
     subst this
     rw [hz] at hk
     injection hk
   rw [this]
   cases seen.contains a.born <;> cases (a.born == e.born) <;> rfl
  ·rcases hal with rfl | rfl <;> exact ⟨rfl, rfl, rfl, by simp [setBlock], fun i _ hi => hset.2 i (fun e1 => hi (by rw [e1]))⟩
  ·rcases hal with rfl | rfl <;> simp [setBlock]
end
end Go.Proofs.YtkmfdiboekoioaaGreat

/- The walks of the small functions of package live: the slots of a state, the putting of numbers into a set, the args of phis. Conditions: each slice within the reach of the model. -/
namespace Go.Proofs.YtkmfdiboekoioaaGreat
open Go.RowKit

def slotsOf (g : GraphP) (s : Int) : List Int := if s < 0 then [] else match g.states[s.toNat]? with | some x => x.slots | none => []
theorem slotsOf_some {g : GraphP} {k : Nat} {y : StateP} (h : g.states[k]? = some y) : slotsOf g (k : Int) = y.slots := by
 unfold slotsOf; rw [if_neg (by omega), Int.toNat_natCast, h]
theorem slotsOf_none {g : GraphP} {k : Nat} (h : g.states.length ≤ k) : slotsOf g (k : Int) = [] := by
 unfold slotsOf; rw [if_neg (by omega), Int.toNat_natCast, List.getElem?_eq_none h]
def SlotsIs (g : GraphP) (s : Int) (w : World) (e : Ending) (w' : World) : Prop := ∃ v, e = .returned v ∧ IntsV w' w.heap.size v (slotsOf g s) ∧ Below w.heap.size w w'

set_option maxHeartbeats 1000000 in
theorem slots_any (x : GVals) (g : GraphP) (s : Int) (w : World) (hg : GraphV w w.heap.size x g) : Calls Tryz.prog 54 #[gval g x, .int .i64 s] w (SlotsIs g s w) := by
 obtain ⟨vn, vb, vs⟩ := x
 obtain ⟨_, _, hs⟩ := hg
 obtain ⟨A, c, rfl, _hc, hl, hs⟩ := hs
 have hlim : g.states.length ≤ 17592186044416 := by unfold lim at hl; omega
 have HS := Lib.hid hs; clear hs hl
 unfold gval
 dsimp only
 by_cases h0 : s < 0
 ·have hfin : slotsOf g s = [] := by simp [slotsOf, h0]
  have HF := Lib.hid hfin; clear hfin
  go_enter Tryz.func54, Tryz.ntmps54
  go_wp2
  go_ret
  exact ⟨_, rfl, by rw [HF.out]; exact IntsV.nil _ _, (Below.refl _ _).alloc (Nat.le_refl _) _⟩
 ·obtain ⟨k, rfl⟩ := Int.eq_ofNat_of_zero_le (Int.not_lt.1 h0)
  by_cases h1 : k < g.states.length
  ·obtain ⟨b, off, rfl, hbB, hp⟩ := HS.out (by omega)
   obtain ⟨y, hy⟩ := getE h1
   have b1 : Below w.heap.size w (w.alloc (.cells #[.int .i64 g.fn, .int .i64 g.pc, .int .i64 g.slots, vn, vb, .slice (some ⟨b, off, none⟩) g.states.length c] 28)) := (Below.refl _ _).alloc (Nat.le_refl _) _
   obtain ⟨f0, ⟨v1, f1, hv1⟩⟩ := (hp k y hy).keep (Same.of_below b1) hbB
   have hfin := slotsOf_some hy
   have HF := Lib.hid hfin; clear hfin
   have HV := Lib.hid hv1
   obtain ⟨A1, c1, rfl, _, _, _⟩ := hv1
   clear hp HS hy
   go_enter Tryz.func54, Tryz.ntmps54
   go_wp2
   go_ret
   exact ⟨_, rfl, by rw [HF.out]; exact HV.out, b1⟩
  ·have hfin := slotsOf_none (g := g) (k := k) (by omega)
   have HF := Lib.hid hfin; clear hfin
   go_enter Tryz.func54, Tryz.ntmps54
   go_wp2
   go_ret
   exact ⟨_, rfl, by rw [HF.out]; exact IntsV.nil _ _, (Below.refl _ _).alloc (Nat.le_refl _) _⟩

/-- A set of numbers as a map whose values are 1. -/
abbrev ISet := Int → Bool
def setF (p : ISet) : FMap := fun x => if p x then some 1 else none
def SetM (w : World) (r : Nat) (p : ISet) : Prop := IMap w r (setF p)
def ISet.add (p : ISet) (N : Nat) (l : List Int) : ISet := fun x => p x || (decide (0 ≤ x ∧ x < N) && l.contains x)
theorem setF_put (p : ISet) (x : Int) : (setF p).put x 1 = setF (fun z => p z || z == x) := by
 funext z
 simp only [FMap.put, setF]
 by_cases h : z = x
 ·simp [h]
 ·simp [h]
theorem add_yes (p : ISet) (N : Nat) (l : List Int) (k : Nat) (x : Int) (hx : l[k]? = some x) (h0 : 0 ≤ x) (h1 : x < N) : p.add N (l.take (k + 1)) = fun z => p.add N (l.take k) z || z == x := by
 funext z
 rw [List.take_add_one, hx]
 simp only [ISet.add, List.contains_append]
 by_cases h : z = x
 ·subst h; simp [h0, h1]
 ·have hb : (z == x) = false := by simp [h]
  simp [hb, h]
theorem add_no (p : ISet) (N : Nat) (l : List Int) (k : Nat) (x : Int) (hx : l[k]? = some x) (h : ¬ (0 ≤ x ∧ x < N)) : p.add N (l.take (k + 1)) = p.add N (l.take k) := by
 funext z
 rw [List.take_add_one, hx]
 simp only [ISet.add, List.contains_append]
 by_cases q : z = x
 ·subst q; simp only [decide_eq_false h, Bool.false_and]
 ·have hb : (z == x) = false := by simp [q]
  simp [hb, q]
theorem add_nil (p : ISet) (N : Nat) : p.add N [] = p := by funext z; simp [ISet.add]

def PutIs (r : Nat) (q : ISet) (w : World) (e : Ending) (w' : World) : Prop := e = .returned (.tuple #[]) ∧ SetM w' r q ∧ w.grownBy w' (some r)

theorem grown_cell {w w' : World} {r : Nat} {p q : ISet} (h : SetM w r p) (h' : SetM w' r q) (hg : w.grownBy w' (some r)) {a : Addr} {v : Value} (hc : w.cell? a = some v) : w'.cell? a = some v :=
 (cell_mapturn h (.inr ⟨_, h'⟩) hg (World.block_lt_of_cell? w a hc)).trans hc
theorem grown_ints {w w' : World} {r : Nat} {p q : ISet} (h : SetM w r p) (h' : SetM w' r q) (hg : w.grownBy w' (some r)) {B : Nat} {v : Value} {l : List Int} (hB : B ≤ w.heap.size) (hl : IntsV w B v l) : IntsV w' B v l :=
 hl.keep fun _ ha => cell_mapturn h (.inr ⟨_, h'⟩) hg (by omega)

set_option maxHeartbeats 1000000 in
theorem put_any (w : World) (r : Nat) (p : ISet) (v : Value) (l : List Int) (bx : Nat) (An : Option Addr) (N cn : Nat) (hset : SetM w r p) (hl : IntsV w w.heap.size v l) (hbox : w.cell? ⟨bx, 3, none⟩ = some (.slice An N cn)) (hN : N ≤ lim) :
  Calls Tryz.prog 50 #[.map (some r), v, .pointer (some ⟨bx, 0, none⟩)] w (PutIs r (p.add N l) w) := by
 have HL := Lib.hid hl
 obtain ⟨A, c, rfl, _hc, hlc, hl⟩ := hl
 have hlim : l.length ≤ 17592186044416 := by unfold lim at hlc; omega
 have hNl : N ≤ 17592186044416 := by unfold lim at hN; omega
 have HW := Lib.hid hl; clear hl hN hlc
 have HSet := Lib.hid hset; clear hset
 have HBox := Lib.hid hbox; clear hbox
 go_enter Tryz.func50, Tryz.ntmps50
 go_wp2
 go_loopw [6, 9] (fun _ i wr => ∃ k : Nat, k ≤ l.length ∧ i = .int .i64 k ∧ SetM wr r (p.add N (l.take k)) ∧ w.grownBy wr (some r)) (fun _ i _ => l.length - (intOf i).toNat)
 case atStart => exact ⟨0, Nat.zero_le _, rfl, by rw [List.take_zero, add_nil]; exact HSet.out, World.grownBy.refl _ _⟩
 case round =>
  obtain ⟨k, hk, rfl, hs, hg⟩ := hrel
  have hbox := grown_cell HSet.out hs hg HBox.out
  have HS := Lib.hid hs
  have HG := Lib.hid hg
  by_cases hlt : k < l.length
  ·obtain ⟨b, off, rfl, hbB, hp⟩ := HW.out (by omega)
   obtain ⟨x, hx⟩ := getE hlt
   have f0 := grown_cell HSet.out hs hg (hp k x hx)
   have HX := Lib.hid hx
   clear hp HW hx hs hg
   by_cases h0 : 0 ≤ x
   ·by_cases h1 : x < (N : Int)
    ·obtain ⟨w1, hrun, hm1, hg1, hs1⟩ := IMap.update (P := Tryz.prog) HS.out Tryz.underlying95 Tryz.underlying3 x 1
     have HM := Lib.hid hm1
     clear hm1 hs1
     go_wp2
     go_roundw
     case rel => exact ⟨k + 1, by omega, by go_num, by rw [add_yes p N l k x HX.out h0 h1]; have := HM.out; rwa [setF_put] at this, HG.out.trans hg1⟩
     case measure => simp [intOf]; omega
    ·go_wp2
     go_roundw
     case rel => exact ⟨k + 1, by omega, by go_num, by rw [add_no p N l k x HX.out (by omega)]; exact HS.out, HG.out⟩
     case measure => simp [intOf]; omega
   ·go_wp2
    go_roundw
    case rel => exact ⟨k + 1, by omega, by go_num, by rw [add_no p N l k x HX.out (by omega)]; exact HS.out, HG.out⟩
    case measure => simp [intOf]; omega
  ·go_wp2
   go_end0
   exact ⟨rfl, by have := HS.out; rwa [List.take_of_length_le (by omega)] at this, HG.out⟩
end Go.Proofs.YtkmfdiboekoioaaGreat

/- The walk of the function that lists the args of phis that are for one block. Conditions: a graph that is small. -/
namespace Go.Proofs.YtkmfdiboekoioaaGreat
open Go.RowKit

/-- A row of the call's own that holds the integers l. -/
def OwnInts (w : World) (base : Nat) (v : Value) (l : List Int) : Prop := w.ownsRow base 3 1 v l.length (l.map (Value.int .i64))
theorem OwnInts.nil (w : World) (base : Nat) : OwnInts w base (.slice none 0 0) [] := World.ownsRow_nil w base _ _
theorem OwnInts.ints {w : World} {base : Nat} {v : Value} {l : List Int} (h : OwnInts w base v l) (hl : l.length ≤ lim) : IntsV w w.heap.size v l := by
 unfold OwnInts at h
 have hlt := h.lt
 rcases h.2 with ⟨hv, hx⟩ | ⟨g, cap, cur, rfl, hbase, hb, hnc, _⟩
 ·have : l = [] := by simpa using hx
  subst this
  rw [hv]; exact IntsV.nil _ _
 ·refine ⟨_, cap, rfl, hnc, hl, fun _ => ⟨g, 0, rfl, (hlt g rfl).2, fun j x hj => ?_⟩⟩
  have := h.cells (g := g) rfl j (.int .i64 x) (by simp [List.getElem?_map, hj])
  rw [Nat.zero_add]
  unfold Addr.add at this
  split at this
  ·rename_i q; rw [q]; exact this
  ·simpa using this
theorem OwnInts.mono {w : World} {base base' : Nat} {v : Value} {l : List Int} (h : OwnInts w base v l) (hb : base' ≤ base) : OwnInts w base' v l := by
 obtain ⟨h1, h2⟩ := h
 refine ⟨h1, ?_⟩
 rcases h2 with h2 | ⟨g, cap, cur, hv, hg, r⟩
 ·exact .inl h2
 ·exact .inr ⟨g, cap, cur, hv, by omega, r⟩
theorem OwnInts.snoc {w : World} {base : Nat} {v : Value} {l : List Int} {a : Int} (h : w.ownsRow base 3 1 v (l.length + 1) (l.map (Value.int .i64) ++ [.int .i64 a])) : OwnInts w base v (l ++ [a]) := by
 unfold OwnInts
 rw [List.length_append, List.map_append]
 exact h
theorem int_info : (Tryz.prog.info? 3).map (fun i => (i.zero, i.size, i.bytes)) = some (some (.int .i64 0), 1, 8) := by kernel_rfl

/-- A graph of so little that lengths add up to little. -/
def Small (g : GraphP) : Prop := graphSz g ≤ 5000
theorem sumSz_mem {α : Type} (f : α → Nat) {l : List α} {x : α} (h : x ∈ l) : f x ≤ sumSz f l := by
 induction l with
 | nil => cases h
 | cons a l ih =>
  simp only [sumSz, List.map_cons, List.foldr_cons] at *
  rcases List.mem_cons.1 h with rfl | h
  ·omega
  ·have := ih h; omega
theorem Small.node {g : GraphP} (h : Small g) {k : Nat} {x : NodeP} (hx : g.nodes[k]? = some x) : x.args.length ≤ 5000 := by
 have := sumSz_mem nodeSz (List.mem_of_getElem? hx)
 simp only [Small, graphSz, nodesSz, nodeSz] at *; omega
theorem Small.block {g : GraphP} (h : Small g) {k : Nat} {x : BlockP} (hx : g.blocks[k]? = some x) : x.nodes.length ≤ 5000 ∧ x.args.length ≤ 5000 ∧ x.next.length ≤ 5000 ∧ x.ahead.length ≤ 5000 := by
 have := sumSz_mem blockSz (List.mem_of_getElem? hx)
 simp only [Small, graphSz, blocksSz, blockSz] at *; omega
theorem Small.lens {g : GraphP} (h : Small g) : g.nodes.length ≤ 5000 ∧ g.blocks.length ≤ 5000 ∧ g.states.length ≤ 5000 := by
 simp only [Small, graphSz, nodesSz, blocksSz, statesSz] at *; omega

/-- The node of a number, if there is one. -/
def nodeAt (g : GraphP) (n : Int) : Option NodeP := if n < 0 then none else g.nodes[n.toNat]?
theorem nodeAt_nat (g : GraphP) (k : Nat) : nodeAt g (k : Int) = g.nodes[k]? := by unfold nodeAt; rw [if_neg (by omega), Int.toNat_natCast]
theorem nodeAt_neg {g : GraphP} {n : Int} (h : n < 0) : nodeAt g n = none := by unfold nodeAt; rw [if_pos h]

/-- Of args those whose place ahead is b. -/
def phiArgs (ahead : List Int) (b : Int) (args : List Int) : List Int := (args.zipIdx.filter (fun p => ahead[p.2]? == some b)).map (·.1)
def phiPart (g : GraphP) (ahead : List Int) (b : Int) (n : Int) : List Int := match nodeAt g n with | some y => if y.op = 2 then phiArgs ahead b y.args else [] | none => []
theorem phiPart_none {g : GraphP} {ahead : List Int} {b n : Int} (h : nodeAt g n = none) : phiPart g ahead b n = [] := by unfold phiPart; rw [h]
theorem phiPart_other {g : GraphP} {ahead : List Int} {b n : Int} {y : NodeP} (h : nodeAt g n = some y) (ho : y.op ≠ 2) : phiPart g ahead b n = [] := by unfold phiPart; rw [h]; simp only [if_neg ho]
theorem phiPart_phi {g : GraphP} {ahead : List Int} {b n : Int} {y : NodeP} (h : nodeAt g n = some y) (ho : y.op = 2) : phiPart g ahead b n = phiArgs ahead b y.args := by unfold phiPart; rw [h]; simp only [if_pos ho]
def phisTo (g : GraphP) (x : BlockP) (b : Int) (k : Nat) : List Int := (x.nodes.take k).flatMap (phiPart g x.ahead b)
def phisOf (g : GraphP) (x : BlockP) (b : Int) : List Int := x.nodes.flatMap (phiPart g x.ahead b)

theorem phiArgs_take (ahead : List Int) (b : Int) (args : List Int) (k : Nat) (a : Int) (h : args[k]? = some a) :
  phiArgs ahead b (args.take (k + 1)) = phiArgs ahead b (args.take k) ++ if ahead[k]? = some b then [a] else [] := by
 have hk : k < args.length := (List.getElem?_eq_some_iff.1 h).1
 unfold phiArgs
 rw [List.take_add_one, h, List.zipIdx_append, List.filter_append, List.map_append]
 congr 1
 have hl : (args.take k).length = k := by rw [List.length_take]; omega
 simp only [Option.toList, List.zipIdx_cons, List.zipIdx_nil, hl, Nat.zero_add, List.filter_cons, List.filter_nil]
 by_cases q : ahead[k]? = some b <;> simp [q]
theorem phiArgs_len (ahead : List Int) (b : Int) (args : List Int) : (phiArgs ahead b args).length ≤ args.length := by
 unfold phiArgs
 rw [List.length_map]
 exact Nat.le_trans (List.length_filter_le _ _) (by simp)
theorem phisTo_step (g : GraphP) (x : BlockP) (b : Int) (k : Nat) (n : Int) (h : x.nodes[k]? = some n) : phisTo g x b (k + 1) = phisTo g x b k ++ phiPart g x.ahead b n := by
 unfold phisTo
 rw [List.take_add_one, h, List.flatMap_append]
 simp
theorem phiPart_len {g : GraphP} (hs : Small g) (ahead : List Int) (b n : Int) : (phiPart g ahead b n).length ≤ 5000 := by
 unfold phiPart
 split
 ·rename_i y hy
  split
  ·have h1 := phiArgs_len ahead b y.args
   unfold nodeAt at hy
   split at hy
   ·cases hy
   ·have := hs.node hy; omega
  ·simp
 ·simp
theorem phisTo_len {g : GraphP} (hs : Small g) (x : BlockP) (b : Int) (k : Nat) : (phisTo g x b k).length ≤ k * 5000 := by
 induction k with
 | zero => simp [phisTo]
 | succ k ih =>
  cases h : x.nodes[k]? with
  | none =>
   have : phisTo g x b (k + 1) = phisTo g x b k := by unfold phisTo; rw [List.take_add_one, h]; simp only [Option.toList, List.append_nil]
   rw [this, Nat.succ_mul]; exact Nat.le_add_right_of_le ih
  | some n =>
   rw [phisTo_step g x b k n h, List.length_append, Nat.succ_mul]
   exact Nat.add_le_add ih (phiPart_len hs x.ahead b n)
theorem phisTo_all (g : GraphP) (x : BlockP) (b : Int) : phisTo g x b x.nodes.length = phisOf g x b := by unfold phisTo phisOf; rw [List.take_length]

def PhisIs (g : GraphP) (x : BlockP) (b : Int) (w : World) (e : Ending) (w' : World) : Prop := ∃ v, e = .returned v ∧ OwnInts w' w.heap.size v (phisOf g x b) ∧ Below w.heap.size w w'

set_option maxRecDepth 100000 in
set_option maxHeartbeats 2000000 in
theorem phis_any (w : World) (xv : GVals) (g : GraphP) (o : Nat) (x : BlockP) (b : Int) (bx : Nat) (hbx : bx < w.heap.size) (hg : GraphV w w.heap.size xv g) (hs : Small g) (hx : g.blocks[o]? = some x)
  (h3 : w.cell? ⟨bx, 3, none⟩ = some xv.vn) (h4 : w.cell? ⟨bx, 4, none⟩ = some xv.vb) :
  Calls Tryz.prog 51 #[.int .i64 (o : Int), .int .i64 b, .pointer (some ⟨bx, 0, none⟩)] w (PhisIs g x b w) := by
 obtain ⟨vn, vb, vs⟩ := xv
 obtain ⟨hn, hb, _⟩ := hg
 simp only at hn hb h3 h4
 obtain ⟨Ab, cb, rfl, hcb, hlb, hb⟩ := hb
 obtain ⟨An, cn, rfl, hcn, hln, hn⟩ := hn
 have hol : o < g.blocks.length := (List.getElem?_eq_some_iff.1 hx).1
 obtain ⟨bb, offb, rfl, hbB, hb⟩ := hb (by omega)
 obtain ⟨⟨v0, f0, hv0⟩, f1, ⟨v2, f2, hv2⟩, ⟨v3, f3, hv3⟩, ⟨v4, f4, hv4⟩, f5⟩ := hb o x hx
 obtain ⟨l1, l2, l3⟩ := hs.lens
 obtain ⟨m1, m2, m3, m4⟩ := hs.block hx
 have HV0 := Lib.hid hv0; have HV2 := Lib.hid hv2; have HV3 := Lib.hid hv3; have HV4 := Lib.hid hv4
 obtain ⟨A0, c0, rfl, _, _, _⟩ := hv0
 obtain ⟨A2, c2, rfl, _, _, _⟩ := hv2
 obtain ⟨A3, c3, rfl, _, _, _⟩ := hv3
 obtain ⟨A4, c4, rfl, _, _, _⟩ := hv4
 have HN := Lib.hid hn; have HX := Lib.hid hx
 have H3 := Lib.hid h3
 obtain ⟨i0, hi, hz0, hz1, hz2⟩ := info_parts int_info
 go_enter Tryz.func51, Tryz.ntmps51
 go_wp2_with fail
 clear hn hb hx h3 h4 f0 f1 f2 f3 f4 f5
 have b1 : Below (w.heap.size + 1) (w.alloc (.cells #[.slice A0 x.nodes.length c0, .int .u8 x.fin, .slice A2 x.args.length c2, .slice A3 x.next.length c3, .slice A4 x.ahead.length c4, .int .i64 x.state] 41)) (w.alloc (.cells #[.slice A0 x.nodes.length c0, .int .u8 x.fin, .slice A2 x.args.length c2, .slice A3 x.next.length c3, .slice A4 x.ahead.length c4, .int .i64 x.state] 41)) := Below.refl _ _
 go_loopw [5, 19] (fun v i wr => ∃ k : Nat, k ≤ x.nodes.length ∧ i = .int .i64 k ∧ OwnInts wr (w.heap.size + 1) v (phisTo g x b k) ∧ Below (w.heap.size + 1) (w.alloc (.cells #[.slice A0 x.nodes.length c0, .int .u8 x.fin, .slice A2 x.args.length c2, .slice A3 x.next.length c3, .slice A4 x.ahead.length c4, .int .i64 x.state] 41)) wr) (fun _ i _ => x.nodes.length - (intOf i).toNat)
 case atStart => exact ⟨0, Nat.zero_le _, rfl, by simpa [phisTo] using OwnInts.nil _ _, b1⟩
 case round =>
  obtain ⟨k, hk, rfl, hown, hb⟩ := hrel
  obtain ⟨wo, rfl⟩ : ∃ wo : World, wo = wr := ⟨_, rfl⟩
  have b0 : Below w.heap.size w wo := ((Below.refl _ _).alloc (Nat.le_refl _) _).trans (hb.mono (by omega))
  have HOwn := Lib.hid hown; have HB := Lib.hid hb; clear hown
  have hblk := (Blk.new w 41 #[.slice A0 x.nodes.length c0, .int .u8 x.fin, .slice A2 x.args.length c2, .slice A3 x.next.length c3, .slice A4 x.ahead.length c4, .int .i64 x.state]).below hb (by omega)
  have q4 : wo.cell? ⟨w.heap.size, 4, none⟩ = some (.slice A4 x.ahead.length c4) := hblk.cell 4
  clear hb hblk
  have HB0 := Lib.hid b0; clear b0
  have p3 := (HB0.out.cell (p := ⟨bx, 3, none⟩) hbx).trans H3.out
  by_cases hlt : k < x.nodes.length
  ·obtain ⟨bn, offn, rfl, hbnB, hpn⟩ := (HV0.out.keep (Same.of_below HB0.out)).cells hlt
   obtain ⟨z, hz⟩ := getE hlt
   have e0 := hpn k z hz
   have HZ := Lib.hid hz
   clear hz hpn
   by_cases h0 : z < 0
   ·go_wp2_with fail
    go_roundw
    case rel => exact ⟨k + 1, by omega, by go_num, by rw [phisTo_step g x b k z HZ.out, phiPart_none (nodeAt_neg h0), List.append_nil]; exact HOwn.out, HB.out⟩
    case measure => simp [intOf]; omega
   ·obtain ⟨zk, rfl⟩ := Int.eq_ofNat_of_zero_le (Int.not_lt.1 h0)
    by_cases h1 : zk < g.nodes.length
    ·obtain ⟨bm, offm, rfl, hbmB, hpm⟩ := HN.out (by omega)
     obtain ⟨y, hy⟩ := getE h1
     obtain ⟨g0, ⟨vg, g1, hvg⟩, g2, g3, g4⟩ := (hpm zk y hy).keep (Same.of_below HB0.out) hbmB
     have HVG := Lib.hid hvg
     obtain ⟨Ag, cg, rfl, _, _, _⟩ := hvg
     have m5 := hs.node hy
     have HY := Lib.hid hy
     clear hy hpm
     by_cases hop : y.op = 2
     ·rw [hop] at g0
      have HOP := Lib.hid hop; clear hop
      go_wp2_with fail
      go_loopw [5, 48] (fun v i wr => ∃ j : Nat, j ≤ y.args.length ∧ i = .int .i64 j ∧ OwnInts wr (w.heap.size + 1) v (phisTo g x b k ++ phiArgs x.ahead b (y.args.take j)) ∧ Below (w.heap.size + 1) (w.alloc (.cells #[.slice (some ⟨bn, offn, none⟩) x.nodes.length c0, .int .u8 x.fin, .slice A2 x.args.length c2, .slice A3 x.next.length c3, .slice A4 x.ahead.length c4, .int .i64 x.state] 41)) wr) (fun _ i _ => y.args.length - (intOf i).toNat)
      case atStart => exact ⟨0, Nat.zero_le _, rfl, by simpa [phiArgs] using HOwn.out, HB.out⟩
      case round =>
       obtain ⟨j, hj, rfl, hown2, hb2⟩ := hrel
       have b02 : Below w.heap.size w wr := ((Below.refl _ _).alloc (Nat.le_refl _) _).trans (hb2.mono (by omega))
       have HOwn2 := Lib.hid hown2; have HB2 := Lib.hid hb2; have HB02 := Lib.hid b02
       have hblk2 := (Blk.new w 41 #[.slice (some ⟨bn, offn, none⟩) x.nodes.length c0, .int .u8 x.fin, .slice A2 x.args.length c2, .slice A3 x.next.length c3, .slice A4 x.ahead.length c4, .int .i64 x.state]).below hb2 (by omega)
       have q42 : wr.cell? ⟨w.heap.size, 4, none⟩ = some (.slice A4 x.ahead.length c4) := hblk2.cell 4
       have hsz2 : w.heap.size + 1 ≤ wr.heap.size := by have := hb2.size; simpa using this
       clear hown2 hb2 b02 hblk2
       by_cases hjl : j < y.args.length
       ·obtain ⟨ba, offa, rfl, hbaB, hpa⟩ := (HVG.out.keep (fun p hp => (HB02.out.cell hp).trans (HB0.out.cell hp).symm)).cells hjl
        obtain ⟨a, ha⟩ := getE hjl
        have e2 := hpa j a ha
        have HA := Lib.hid ha
        clear ha hpa
        by_cases hja : j < x.ahead.length
        ·obtain ⟨bh, offh, rfl, hbhB, hph⟩ := (HV4.out.keep (Same.of_below HB02.out)).cells hja
         obtain ⟨c, hc⟩ := getE hja
         have e3 := hph j c hc
         have HC := Lib.hid hc
         clear hc hph
         by_cases hcb : c = b
         ·subst hcb
          have hlen : (phisTo g x c k ++ phiArgs x.ahead c (y.args.take j)).length ≤ 30000000 := by
           rw [List.length_append]
           have i1 := phisTo_len hs x c k
           have i2 := phiArgs_len x.ahead c (y.args.take j)
           rw [List.length_take] at i2
           omega
          go_wp2_with (at_builtin; refine wpList_append_own_at _ rfl (.tmp 67) (.tmp 69) 34 rfl (w.heap.size + 1) 3 i0 (.int .i64 0) 1 8 Tryz.underlying34 hi hz0 hz1 hz2 rfl (by decide) _ _ _ rfl (HOwn2.out.alloc _) ⟨wr.heap.size, 0, none⟩ 1 1 [.int .i64 a] rfl rfl (cell_one_new _ _ _) (ints_oneCell .i64 [a]) (by unfold maxLen; omega) (by omega) (by simp; omega) ?_; intro v' w1 hown' hgrow _ _)
          go_roundw
          case rel => exact ⟨j + 1, by omega, by go_num, by rw [phiArgs_take x.ahead c y.args j a HA.out, HC.out, if_pos rfl, ← List.append_assoc]; exact OwnInts.snoc hown', (HB2.out.alloc hsz2 _).grown hgrow (by simp; omega) (fun q e => (HOwn2.out.lt q e).1)⟩
          case measure => simp [intOf]; omega
         ·have hcf : (c == b) = false := by simp [hcb]
          have HCB := Lib.hid hcb; clear hcb
          go_wp2_with fail
          go_roundw
          case rel => exact ⟨j + 1, by omega, by go_num, by rw [phiArgs_take x.ahead b y.args j a HA.out, HC.out, if_neg (fun q => HCB.out (by injection q)), List.append_nil]; exact HOwn2.out, HB2.out⟩
          case measure => simp [intOf]; omega
        ·go_wp2_with fail
         go_roundw
         case rel => exact ⟨j + 1, by omega, by go_num, by rw [phiArgs_take x.ahead b y.args j a HA.out, List.getElem?_eq_none (by omega), if_neg (by simp), List.append_nil]; exact HOwn2.out, HB2.out⟩
         case measure => simp [intOf]; omega
       ·go_wp2_with fail
        go_roundw
        case rel => exact ⟨k + 1, by omega, by go_num, by rw [phisTo_step g x b k _ HZ.out, phiPart_phi ((nodeAt_nat g zk).trans HY.out) HOP.out]; have := HOwn2.out; rwa [List.take_of_length_le (by omega)] at this, HB2.out⟩
        case measure => simp [intOf]; omega
     ·have hopb : (y.op != 2) = true := by simp [hop]
      have HOP := Lib.hid hop; clear hop
      go_wp2_with fail
      go_roundw
      case rel => exact ⟨k + 1, by omega, by go_num, by rw [phisTo_step g x b k _ HZ.out, phiPart_other ((nodeAt_nat g zk).trans HY.out) HOP.out, List.append_nil]; exact HOwn.out, HB.out⟩
      case measure => simp [intOf]; omega
    ·go_wp2_with fail
     go_roundw
     case rel => exact ⟨k + 1, by omega, by go_num, by rw [phisTo_step g x b k _ HZ.out, phiPart_none ((nodeAt_nat g zk).trans (List.getElem?_eq_none (by omega))), List.append_nil]; exact HOwn.out, HB.out⟩
     case measure => simp [intOf]; omega
  ·go_wp2_with fail
   go_ret
   exact ⟨_, rfl, by have := HOwn.out; rw [show k = x.nodes.length from by omega, phisTo_all] at this; exact this.mono (by omega), HB0.out⟩
end Go.Proofs.YtkmfdiboekoioaaGreat
