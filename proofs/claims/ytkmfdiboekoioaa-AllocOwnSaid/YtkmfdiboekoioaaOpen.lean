/- A graph that came in, read: as plain data that lies in memory. Conditions: the reach of the form (each slice of at most 2^47 bytes). -/
import Derived.Test.YtkmfdiboekoioaaBase
import Derived.Test.YtkmfdiboekoioaaChecked
import Derived.Deep.Slices
import Derived.Deep.Fields
import Derived.SizedLaws
import Derived.OpenShut
namespace Go.Proofs.Ytkmfdiboekoioaa
open Go.ChangeShapes Go.WideShapes Go.Deep

theorem at_lt {w : World} {a : Addr} {v : Value} (h : w.cell? a = some v) : a.block < w.heap.size := by
  rcases Nat.lt_or_ge a.block w.heap.size with hlt | hge
  · exact hlt
  · simp [World.cell?, Array.getElem?_eq_none hge] at h
theorem weights_mem_all {H : Type} {P : Program} {e : TypeId} {d : DataW H} {n : Nat} (hn : n ∈ d.weights P e) : ∀ {l : List (DataW H)}, d ∈ l → n ∈ DataW.weightsAll P e l
  | a :: l, hd => by
    simp only [DataW.weightsAll, List.mem_append]
    rcases List.mem_cons.1 hd with rfl | hd
    · exact .inl hn
    · exact .inr (weights_mem_all hn hd)
section
variable {H : Type} {enc : TypeId × Value → H} {W : World} {fuel : Nat}
theorem ints_read {v : Value} {x : DataW H × List MemPlace} (h : DataW.trod enc Try.prog W 0 (fun _ => true) true fuel 29 [v] = some x) (hw : ∀ n ∈ x.1.weights Try.prog 29, n ≤ reachBytes) : ∃ l, IntsV W W.heap.size v l := by
  have hby : Try.prog.bytesOf 3 = 8 := by kernel_rfl
  rcases open_ints Try.underlying29 Try.underlying3 (by kernel_rfl) h with ⟨hcs, _⟩ | ⟨a, len, cap, zs, hcs, _, hl, _, hz, hx, hcell, _⟩
  · injection hcs with e _
    exact ⟨[], e ▸ IntsV.nil _ _⟩
  · injection hcs with e _
    subst e
    simp only [if_true] at hz
    have hsz : cap ≤ lim := by
      have := hw ((zs.take len).length * 8 + (zs.drop len).length * 8) (by
        rw [hx]
        simp only [DataW.weights, Try.underlying29, hby, lits, List.length_map, List.mem_cons]
        exact .inl (by omega))
      rw [List.length_take, List.length_drop] at this
      unfold reachBytes at this
      unfold lim
      omega
    have hlen : (zs.take len).length = len := by rw [List.length_take]; omega
    refine ⟨zs.take len, some a, cap, by rw [hlen], by omega, by omega, fun h0 => ?_⟩
    obtain ⟨b, off, rfl, hc⟩ := ints_at hcell (by omega)
    refine ⟨b, off, rfl, at_lt (hc 0 (by omega)), fun j y hj => ?_⟩
    have hj' : j < len := by have := (List.getElem?_eq_some_iff.1 hj).1; omega
    rw [hc j (by omega)]
    rw [List.getElem?_take_of_lt hj'] at hj
    rw [List.getD_eq_getElem?_getD, hj]
    rfl
/-- A struct of one-cell fields, field by field. -/
theorem struct_read {P : Program} {t : TypeId} {fs : Array Field} {cs : List Value} {x : DataW H × List MemPlace} (ht : P.underlying t = some (.struct fs)) (hone : oneCellFields P fs = true)
    (h : DataW.trod enc P W 0 (fun _ => true) true fuel t cs = some x) (hw : ∀ n ∈ x.1.weights P t, n ≤ reachBytes) :
    ∃ n, ∀ (i : Nat) (f : Field) (v : Value), fs[i]? = some f → cs[i]? = some v → ∃ y, DataW.trod enc P W 0 (fun _ => true) true n f.type [v] = some y ∧ ∀ m ∈ y.1.weights P f.type, m ≤ reachBytes := by
  obtain ⟨xs, n, _, rfl, hl, hlen, hf⟩ := DataW.trod_struct ht h
  refine ⟨n, fun i f v hi hv => ?_⟩
  obtain ⟨o, k⟩ := hone_of hone i f hi
  have hlt : i < xs.length := by rw [hlen]; exact (Array.getElem?_eq_some_iff.1 hi).1
  have hd : (cs.drop f.offset).take (P.cellsOf f.type) = [v] := by
    rw [o, k]
    have hc : i < cs.length := (List.getElem?_eq_some_iff.1 hv).1
    rw [List.drop_eq_getElem_cons hc]
    have := (List.getElem?_eq_some_iff.1 hv).2
    simp [this]
  have := hf i f hi
  rw [hd, List.getElem?_eq_getElem hlt] at this
  refine ⟨_, this, fun m hm => hw m ?_⟩
  simp only [DataW.weights, ht]
  refine DataW.weights_mem_each (j := i) (t := f.type) (d := (xs[i]).1) ?_ ?_ m hm
  · rw [List.getElem?_map, Array.getElem?_toList, hi]; rfl
  · rw [List.getElem?_map, List.getElem?_eq_getElem hlt]; rfl
/-- A slice of parts, part by part. -/
theorem parts_read {α : Type} [Inhabited α] {At : Nat → Nat → α → Prop} {size : Nat} {P : Program} {t e : TypeId} {v : Value} {x : DataW H × List MemPlace} (ht : P.underlying t = some (.slice e)) (hc : P.cellsOf e = size) (h0 : 0 < size) (hby : 8 ≤ P.bytesOf e)
    (h : DataW.trod enc P W 0 (fun _ => true) true fuel t [v] = some x) (hw : ∀ n ∈ x.1.weights P t, n ≤ reachBytes)
    (hread : ∀ b o cs n y, b < W.heap.size → cs.length = size → (∀ k, k < size → W.cell? ⟨b, o + k, none⟩ = cs[k]?) → DataW.trod enc P W 0 (fun _ => true) true n e cs = some y → (∀ m ∈ y.1.weights P e, m ≤ reachBytes) → ∃ z, At b o z) :
    ∃ l, PartsV W.heap.size At size v l := by
  rcases open_slice ht h with ⟨hcs, _⟩ | ⟨a, len, cap, m, n, D, Pl, hcs, _, hl, _, hm, hx, hel⟩
  · injection hcs with e1 _
    subst e1
    exact ⟨[], none, 0, rfl, by simp, by simp, fun h => by simp at h⟩
  · injection hcs with e1 _
    subst e1
    simp only [if_true] at hm
    subst hm
    rw [hx] at hw
    simp only [DataW.weights, ht, List.length_map, List.length_range] at hw
    have hsz : m ≤ lim := by
      have h1 := hw _ (List.mem_cons_self ..)
      have h2 : (len + (m - len)) * 8 ≤ (len + (m - len)) * P.bytesOf e := Nat.mul_le_mul_left _ hby
      unfold reachBytes at h1
      unfold lim
      omega
    rcases Nat.eq_zero_or_pos len with hp | hp
    · subst hp
      exact ⟨[], some a, m, rfl, by simp, by simp, fun h => by simp at h⟩
    obtain ⟨cs, h1, _⟩ := hel 0 (by omega)
    obtain ⟨_, h3, h4⟩ := World.cells?_some h1
    rw [hc] at h3 h4
    cases cs with
    | nil => simp at h3; omega
    | cons c0 cs =>
      have hs := World.cell?_spot (h4 0 h0)
      have hb := at_lt (h4 0 h0)
      obtain ⟨b, off, sp⟩ := a
      have hsp : sp = none := by
        simpa [Addr.add] using hs
      subst hsp
      have hb' : b < W.heap.size := by simpa [Addr.add] using hb
      have key : ∀ i, i < len → ∃ z : α, At b (off + i * size) z := fun i hi => by
        obtain ⟨cs', g1, g2⟩ := hel i (by omega)
        obtain ⟨_, g3, g4⟩ := World.cells?_some g1
        rw [hc] at g3 g4
        refine hread b (off + i * size) _ n _ hb' g3 (fun k hk => ?_) g2 (fun q hq => hw q (List.mem_cons_of_mem _ (List.mem_append_left _ (weights_mem_all hq (List.mem_map.2 ⟨i, List.mem_range.2 hi, rfl⟩)))))
        rw [← g4 k hk, add_plain, add_plain]
      obtain ⟨f, hf⟩ := choose_lt key
      have hlen : ((List.range len).map f).length = len := by simp
      refine ⟨(List.range len).map f, some ⟨b, off, none⟩, m, by rw [hlen], by omega, by omega, fun _ => ⟨b, off, rfl, hb', fun j y hj => ?_⟩⟩
      have hj' : j < len := by have := (List.getElem?_eq_some_iff.1 hj).1; omega
      have : f j = y := by
        rw [List.getElem?_map, List.getElem?_range hj'] at hj
        injection hj
      rw [← this]
      exact hf j hj'
end
end Go.Proofs.Ytkmfdiboekoioaa
