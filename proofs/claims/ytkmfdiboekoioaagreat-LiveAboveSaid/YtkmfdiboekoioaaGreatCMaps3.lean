/- 'm[x], m[y] = ..': an entry made first, written after. Conditions: the map's types are map, int and int. -/
import Derived.Test.YtkmfdiboekoioaaGreatCMaps
import Derived.WideKeyEntry
set_option linter.unusedSimpArgs false
set_option linter.unusedVariables false
namespace Go.Proofs.YtkmfdiboekoioaaGreat
open Go.RowKit Go.MapKept
section
variable {P : Program} {w w' : World} {r : Nat} {m : FMap} {T K E : TypeId}
/-- A map that has an entry for x, stamped s. -/
def IMapS (w : World) (r : Nat) (m : FMap) (x s : Int) : Prop :=
  ∃ es clock e, w.heap[r]? = some (.map es clock) ∧ MapIs es clock m ∧ e ∈ es.toList ∧ e.key = .int .i64 x ∧ ((e.born : Nat) : Int) = s
theorem IMapS.map {x s : Int} (h : IMapS w r m x s) : IMap w r m := by
  obtain ⟨es, clock, e, hb, hm, _⟩ := h
  exact ⟨es, clock, hb, hm⟩
theorem IMapS.same {x s : Int} (h : IMapS w r m x s) (hk : w'.heap[r]? = w.heap[r]?) : IMapS w' r m x s := by
  obtain ⟨es, clock, e, hb, h⟩ := h
  exact ⟨es, clock, e, hk.trans hb, h⟩
theorem IMapS.grown {x s : Int} {row : Option Nat} (h : IMapS w r m x s) (hb : w.grownBy w' row) (hr : some r ≠ row) : IMapS w' r m x s := h.same (hb.block r h.map.lt hr)

theorem IMap.entry (h : IMap w r m) (ht : P.underlying T = some (.map K E)) (hk : P.underlying K = some (.int .i64)) (hz : (zeroValue E).run P w = .ok (.int .i64 0) w) (x : Int) :
    ∃ y s w1, (Instr.mapEntry T (.map (some r)) (.int .i64 x)).run P w = .ok (.tuple #[.int .i64 y, .int .i64 s]) w1 ∧ IMapS w1 r (m.put x y) x s ∧ w.grownBy w1 (some r) ∧ w1.heap.size = w.heap.size := by
  obtain ⟨es, clock, hb, hm⟩ := h
  have hkey : IsKey (.int .i64) (.int .i64 x) := rfl
  rcases hm.find x with ⟨h1, h2, h3⟩ | ⟨j, e, v, h1, h2, h3, h4, h5, h6⟩
  · refine ⟨0, clock, _, ?_, ⟨_, _, { key := .int .i64 x, val := .int .i64 0, born := clock }, (heap_set hb).1, hm.push h3 0, by simp, rfl, rfl⟩, grownBy_set hb _, by simp⟩
    simp [Instr.mapEntry, run_underlying ht, MapKept.run_getObj_map hb, run_checkKey hk hkey, run_findKey hk h1, run_setObj_map _ hb, Result.andThen, hz, goInt]
  · have he2 : es[j]? = some e := by rw [← Array.getElem?_toList]; exact h2
    have hkt : (Instr.keyThatStays (.int .i64 x) (.int .i64 x)).run P w = .ok (.int .i64 x) w := run_keyThatStays hkey
    have hml := modify_list h2 (fun e => { key := .int .i64 x, val := e.val, born := e.born })
    have hlt : j < es.toList.length := (List.getElem?_eq_some_iff.1 h2).1
    refine ⟨v, e.born, _, ?_, ⟨_, _, { key := .int .i64 x, val := e.val, born := e.born }, (heap_set hb).1, hm.set_ h2 h3 v (by rw [hml]; simp only [h4]), ?_, rfl, rfl⟩, grownBy_set hb _, by simp⟩
    · simp [Instr.mapEntry, run_underlying ht, MapKept.run_getObj_map hb, run_checkKey hk hkey, run_findKey hk h1, run_setObj_map _ hb, Result.andThen, he2, h3, hkt, goInt]
    · rw [hml]
      exact List.mem_of_getElem? (i := j) (by rw [List.getElem?_set]; simp only [if_true]; rw [if_pos hlt])

theorem FMap.put_put (m : FMap) (x y z : Int) : (m.put x y).put x z = m.put x z := by
  funext k
  simp only [FMap.put]
  split <;> rfl

theorem IMapS.store {x s : Int} (h : IMapS w r m x s) (T : TypeId) (y : Int) :
    ∃ w1, (Instr.entryStore T (.map (some r)) (.int .i64 s) (.int .i64 y)).run P w = .ok () w1 ∧ IMap w1 r (m.put x y) ∧ w.grownBy w1 (some r) ∧ w1.heap.size = w.heap.size := by
  obtain ⟨es, clock, e, hb, hm, he, hke, rfl⟩ := h
  obtain ⟨j, hj⟩ := List.mem_iff_getElem?.1 he
  have hn : (es.toList.map (·.born)).Nodup := by
    rw [List.nodup_iff_pairwise_ne, List.pairwise_map]
    exact hm.2.2.imp fun h => h.2
  have hf : es.findIdx? (fun a => ((a.born : Nat) : Int) == ((e.born : Nat) : Int)) = some j := by rw [Go.WideElems.findIdx_arr]; exact Go.WideElems.findIdx_born hn hj
  have hml := modify_list hj (fun a => { key := a.key, val := .int .i64 y, born := a.born })
  refine ⟨_, ?_, ⟨_, _, (heap_set hb).1, hm.set_ hj hke y (by rw [hml]; rw [hke])⟩, grownBy_set hb _, by simp⟩
  simp [Instr.entryStore, MapKept.run_getObj_map hb, Result.andThen, asInt, asIntOf, hf, run_setObj_map _ hb]
end
end Go.Proofs.YtkmfdiboekoioaaGreat
