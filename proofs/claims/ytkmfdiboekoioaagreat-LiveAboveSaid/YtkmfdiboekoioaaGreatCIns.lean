/- slices.Insert of one number into a row of the call's own. Conditions: the row is the call's own. -/
import Derived.Test.YtkmfdiboekoioaaGreatCLaysI
import Derived.Test.YtkmfdiboekoioaaGreatCLive1
set_option linter.unusedSimpArgs false
set_option linter.unusedVariables false
namespace Go.Proofs.YtkmfdiboekoioaaGreat
open Go.RowKit

theorem setCells_blk {b : Nat} {e : TypeId} : ∀ (vs : List Value) (o : Nat) (cur : Array Value) (w : World), w.heap[b]? = some (.cells cur e (0, 0)) → o + vs.length ≤ cur.size →
    (w.setCells b o vs).heap[b]? = some (.cells (cur.toList.take o ++ vs ++ cur.toList.drop (o + vs.length)).toArray e (0, 0)) ∧ w.grownBy (w.setCells b o vs) (some b) ∧ (w.setCells b o vs).heap.size = w.heap.size
  | [], o, cur, w, h, _ => by
    refine ⟨?_, ⟨rfl, rfl, rfl, Nat.le_refl _, fun _ _ _ => rfl⟩, rfl⟩
    simp only [World.setCells, List.append_nil, List.length_nil, Nat.add_zero, List.take_append_drop]
    simpa using h
  | v :: r, o, cur, w, h, hl => by
    simp only [List.length_cons] at hl
    have hb : (w.setCell ⟨b, o, none⟩ v).heap[b]? = some (.cells (cur.setIfInBounds o v) e (0, 0)) := by
      simp [World.setCell, Array.getElem?_modify, h]
    obtain ⟨h1, h2, h3⟩ := setCells_blk r (o + 1) (cur.setIfInBounds o v) (w.setCell ⟨b, o, none⟩ v) hb (by simp; omega)
    refine ⟨?_, ?_, ?_⟩
    · rw [World.setCells, h1]
      have ho : o < cur.toList.length := by simp; omega
      have key : ((cur.setIfInBounds o v).toList.take (o + 1) ++ r ++ (cur.setIfInBounds o v).toList.drop (o + 1 + r.length)) = cur.toList.take o ++ v :: r ++ cur.toList.drop (o + (r.length + 1)) := by
        rw [Array.toList_setIfInBounds, List.set_eq_take_append_cons_drop, if_pos ho]
        have hl1 : (cur.toList.take o).length = o := by rw [List.length_take]; omega
        have e1 : (cur.toList.take o ++ v :: cur.toList.drop (o + 1)).take (o + 1) = cur.toList.take o ++ [v] := by
          rw [List.take_append, hl1, List.take_of_length_le (by omega)]
          simp
        have e2 : (cur.toList.take o ++ v :: cur.toList.drop (o + 1)).drop (o + 1 + r.length) = cur.toList.drop (o + (r.length + 1)) := by
          rw [List.drop_append, hl1, List.drop_of_length_le (by omega), show o + 1 + r.length - o = r.length + 1 by omega]
          simp only [List.drop_succ_cons, List.drop_drop, List.nil_append]
          congr 1; omega
        rw [e1, e2]; simp
      rw [key]
      rfl
    · have g1 : w.grownBy (w.setCell ⟨b, o, none⟩ v) (some b) := ⟨rfl, rfl, rfl, by simp [World.setCell], fun k _ hne => Below.heap_setCell _ ⟨b, o, none⟩ v k (fun q => hne (by rw [q]))⟩
      exact g1.trans h2
    · rw [World.setCells, h3]; simp [World.setCell]

theorem zc_size (n : Nat) : (Builtin.zeroCells (Value.int .i64 0).cells n).size = n := by
  simp [Builtin.zeroCells, Value.cells]
/-- A new row that begins with l. -/
theorem own_new {w w1 : World} {base cap : Nat} {l : List Int} {cur : Array Value} (hb : w1.heap[w.heap.size]? = some (.cells cur 3 (0, 0))) (hbase : base ≤ w.heap.size) (hc : l.length ≤ cap) (hm : cap ≤ maxLen) (hs : cur.size = cap) (ht : cur.toList.take l.length = l.map (Value.int .i64)) :
    OwnInts w1 base (.slice (some ⟨w.heap.size, 0, none⟩) l.length cap) l :=
  ⟨by simp, .inr ⟨w.heap.size, cap, cur, rfl, hbase, hb, hc, hm, by simpa using hs, by simpa using ht⟩⟩
def insL (xs : List Int) (i : Nat) (x : Int) : List Int := xs.take i ++ x :: xs.drop i
theorem insL_len {xs : List Int} {i : Nat} {x : Int} (hi : i ≤ xs.length) : (insL xs i x).length = xs.length + 1 := by unfold insL; simp; omega
def InsIs (base : Nat) (v : Value) (xs : List Int) (i : Nat) (x : Int) (w : World) (e : Ending) (w' : World) : Prop := ∃ v', e = .returned v' ∧ OwnInts w' base v' (insL xs i x) ∧ w.grownBy w' v.ownBlock ∧ (v'.ownBlock = v.ownBlock ∨ v'.ownBlock = some w.heap.size)
theorem insert_none (w : World) (base : Nat) (x : Int) (vb : Nat) (hvb : Blk w vb 3 #[.int .i64 x]) (hbase : base ≤ w.heap.size) :
    Calls Tryz.prog 132 #[.slice none 0 0, .int .i64 (0 : Nat), .slice (some ⟨vb, 0, none⟩) 1 1] w (InsIs base (.slice none 0 0) [] 0 x w) := by
  have h := Any2.slices_Insert_int_end_grow Tryz.insertA none 0 0 vb 0 1 1 [] [.int .i64 x] w (by omega) (by omega) (by omega) (by omega) rfl rfl (fun _ => rfl) (fun a h => by cases h) (fun j v hj => by
    rcases j with _ | j
    · simp at hj; subst hj; exact hvb.cell 0
    · simp at hj) (by simp [Value.oneCell'])
  simp only [show Tryz.insertA_ren.t 3 = 3 from rfl] at h
  refine h.mono ?_
  rintro e w' ⟨rfl, rfl⟩
  have hm : grownCap w (0 + 1) 0 3 ≤ maxLen := grownCap_le_maxLen w _ _ _ (by unfold maxLen; omega)
  have hg := grownCap_ge w (0 + 1) 0 3
  refine ⟨_, rfl, own_new (l := insL [] 0 x) (cur := _) (heap_alloc_new w.drew _) hbase (by simpa [insL] using hg) hm (by
    have h1 := zc_size (grownCap w (0 + 1) 0 3 - (0 + 1))
    rw [Array.size_append, h1]
    simp only [List.nil_append, List.size_toArray, List.length_singleton]
    omega) (by simp [insL]), ?_, .inr rfl⟩
  exact ⟨rfl, rfl, rfl, by simp, fun k hk _ => Below.heap_alloc w.drew _ k hk⟩

theorem oneInts (l : List Int) : ∀ v ∈ l.map (Value.int .i64), v.oneCell' = true := fun v hv => by
  obtain ⟨x, _, rfl⟩ := List.mem_map.1 hv
  rfl
theorem one_at {w : World} {vb : Nat} {x : Int} (hvb : Blk w vb 3 #[.int .i64 x]) : ∀ j v, ([Value.int .i64 x] : List Value)[j]? = some v → w.cell? ⟨vb, 0 + j, none⟩ = some v := fun j v hj => by
  rcases j with _ | j
  · simp at hj; subst hj; exact hvb.cell 0
  · simp at hj
theorem insL_map (xs : List Int) (i : Nat) (x : Int) : (insL xs i x).map (Value.int .i64) = (xs.map (Value.int .i64)).take i ++ Value.int .i64 x :: (xs.map (Value.int .i64)).drop i := by
  simp [insL, List.map_take, List.map_drop]
/-- A row in place. -/
theorem own_set {w1 : World} {base g cap n : Nat} {l : List Int} {cur : Array Value} (hn : l.length = n) (hb : w1.heap[g]? = some (.cells cur 3 (0, 0))) (hbase : base ≤ g) (hc : n ≤ cap) (hm : cap ≤ maxLen) (hs : cur.size = cap) (ht : cur.toList.take n = l.map (Value.int .i64)) :
    OwnInts w1 base (.slice (some ⟨g, 0, none⟩) n cap) l := by
  subst hn
  exact ⟨by simp, .inr ⟨g, cap, cur, rfl, hbase, hb, hc, hm, by simpa using hs, by simpa using ht⟩⟩
theorem insert_end (w : World) (base g cap : Nat) (xs : List Int) (cur : Array Value) (x : Int) (vb : Nat) (hb : w.heap[g]? = some (.cells cur 3 (0, 0))) (hbg : base ≤ g) (hc : xs.length ≤ cap) (hm : cap ≤ maxLen) (hs : cur.size = cap) (ht : cur.toList.take xs.length = xs.map (Value.int .i64))
    (hvb : Blk w vb 3 #[.int .i64 x]) (hbase : base ≤ w.heap.size) (hl : xs.length ≤ 1000000) :
    Calls Tryz.prog 132 #[.slice (some ⟨g, 0, none⟩) xs.length cap, .int .i64 xs.length, .slice (some ⟨vb, 0, none⟩) 1 1] w (InsIs base (.slice (some ⟨g, 0, none⟩) xs.length cap) xs xs.length x w) := by
  have hI : insL xs xs.length x = xs ++ [x] := by simp [insL]
  have hcell : ∀ j, w.cell? ⟨g, j, none⟩ = cur[j]? := fun j => cell_of_row w g j cur _ (0, 0) hb
  have hfro : ∀ j, w.frozen? ⟨g, j, none⟩ = false := fun j => by simp [World.frozen?, hb]
  by_cases hr : xs.length + 1 ≤ cap
  · have h := Any2.slices_Insert_int_end_room Tryz.insertA g 0 xs.length cap vb 0 1 1 [.int .i64 x] w (by omega) hr (by unfold maxLen at hm; omega) rfl (fun j hj => by rw [hcell]; simp; omega) (fun j hj => hfro _) (one_at hvb) (by simp [Value.oneCell'])
    refine h.mono ?_
    rintro e w' ⟨rfl, rfl⟩
    obtain ⟨h1, h2, h3⟩ := setCells_blk [Value.int .i64 x] (0 + xs.length) cur w hb (by simp; omega)
    refine ⟨_, rfl, ?_, h2, .inl rfl⟩
    rw [hI]
    refine own_set (by simp) h1 hbg hr hm (by simp; omega) ?_
    have hlen : (cur.toList.take (0 + xs.length)).length = xs.length := by simp; omega
    simp only [List.append_assoc]
    rw [List.take_append, hlen, List.take_of_length_le (by omega), Nat.zero_add, ht]
    simp
  · have hce : cap = xs.length := by omega
    have h := Any2.slices_Insert_int_end_grow Tryz.insertA (some ⟨g, 0, none⟩) xs.length cap vb 0 1 1 (xs.map (Value.int .i64)) [.int .i64 x] w (by omega) hc (by omega) (by omega) (by simp) rfl (fun h => by cases h) (fun a ha j v hj => by
      injection ha with ha
      subst ha
      rw [Addr.add_lit, Nat.zero_add, hcell]
      rw [← ht, List.getElem?_take] at hj
      split at hj
      · simpa using hj
      · cases hj) (one_at hvb) (by simp [Value.oneCell'])
    simp only [show Tryz.insertA_ren.t 3 = 3 from rfl] at h
    refine h.mono ?_
    rintro e w' ⟨rfl, rfl⟩
    have hm2 : grownCap w (xs.length + 1) cap 3 ≤ maxLen := grownCap_le_maxLen w _ _ _ (by unfold maxLen; omega)
    have hg := grownCap_ge w (xs.length + 1) cap 3
    have h1 := zc_size (grownCap w (xs.length + 1) cap 3 - (xs.length + 1))
    refine ⟨_, rfl, ?_, ?_, .inr rfl⟩
    · rw [hI]
      refine own_set (by simp) (heap_alloc_new w.drew _) hbase hg hm2 ?_ ?_
      · rw [Array.size_append, h1]
        simp only [List.size_toArray, List.length_append, List.length_map, List.length_singleton]
        omega
      · simp only [Array.toList_append, List.map_append, List.map_cons, List.map_nil, List.append_assoc]
        rw [List.take_append]
        simp [List.take_of_length_le]
    · exact ⟨rfl, rfl, rfl, by simp, fun k hk _ => Below.heap_alloc w.drew _ k hk⟩

theorem shift_list {α : Type} (L : List α) (n i : Nat) (x : α) (hi : i < n) (hn : n + 1 ≤ L.length) :
    ((L.take (0 + (i + 1)) ++ (L.take n).drop i ++ L.drop (0 + (i + 1) + ((L.take n).drop i).length)).take (0 + i) ++ [x] ++ (L.take (0 + (i + 1)) ++ (L.take n).drop i ++ L.drop (0 + (i + 1) + ((L.take n).drop i).length)).drop (0 + i + [x].length)).take (n + 1) = (L.take n).take i ++ x :: (L.take n).drop i := by
  have hl : (L.take (0 + (i + 1))).length = i + 1 := by rw [List.length_take]; omega
  have hd : ((L.take n).drop i).length = n - i := by rw [List.length_drop, List.length_take]; omega
  have hti : (L.take n).take i = L.take i := by rw [List.take_take]; congr 1; omega
  have e1 : (L.take (0 + (i + 1)) ++ (L.take n).drop i ++ L.drop (0 + (i + 1) + ((L.take n).drop i).length)).take (0 + i) = L.take i := by
    rw [List.append_assoc, List.take_append_of_le_length (by rw [hl]; omega), List.take_take]; congr 1; omega
  have e2 : (L.take (0 + (i + 1)) ++ (L.take n).drop i ++ L.drop (0 + (i + 1) + ((L.take n).drop i).length)).drop (0 + i + [x].length) = (L.take n).drop i ++ L.drop (0 + (i + 1) + ((L.take n).drop i).length) := by
    rw [List.append_assoc]
    exact List.drop_left' (by rw [hl]; simp)
  rw [e1, e2, ← List.append_assoc, List.take_left' (by simp only [List.length_append, List.length_take, hd, List.length_singleton]; omega), hti]
  simp
theorem grow_list {α : Type} (M Z : List α) (n i : Nat) (x : α) (hi : i < n) (hM : M.length = n) (hZ : n + 1 - i ≤ Z.length) :
    ((((M.take i ++ Z).take i ++ [x] ++ (M.take i ++ Z).drop (i + [x].length)).take (i + 1)) ++ M.drop i ++ ((M.take i ++ Z).take i ++ [x] ++ (M.take i ++ Z).drop (i + [x].length)).drop (i + 1 + (M.drop i).length)).take (n + 1) = M.take i ++ x :: M.drop i := by
  have hl : (M.take i).length = i := by rw [List.length_take]; omega
  have e0 : (M.take i ++ Z).take i = M.take i := List.take_left' hl
  have e1 : ((M.take i ++ Z).take i ++ [x] ++ (M.take i ++ Z).drop (i + [x].length)).take (i + 1) = M.take i ++ [x] := by
    rw [e0]; exact List.take_left' (by simp [hl])
  rw [e1, List.take_left' (by simp only [List.length_append, hl, List.length_singleton, List.length_drop, hM]; omega)]
  simp
theorem drew_grown (w : World) (r : Option Nat) : w.grownBy w.drew r := ⟨rfl, rfl, rfl, Nat.le_refl _, fun _ _ _ => rfl⟩
theorem insert_mid (w : World) (base g cap : Nat) (xs : List Int) (i : Nat) (cur : Array Value) (x : Int) (vb : Nat) (hb : w.heap[g]? = some (.cells cur 3 (0, 0))) (hbg : base ≤ g) (hc : xs.length ≤ cap) (hm : cap ≤ maxLen) (hs : cur.size = cap) (ht : cur.toList.take xs.length = xs.map (Value.int .i64))
    (hi : i < xs.length) (hvb : Blk w vb 3 #[.int .i64 x]) (hne : vb ≠ g) (hbase : base ≤ w.heap.size) (hl : xs.length ≤ 1000000) :
    Calls Tryz.prog 132 #[.slice (some ⟨g, 0, none⟩) xs.length cap, .int .i64 i, .slice (some ⟨vb, 0, none⟩) 1 1] w (InsIs base (.slice (some ⟨g, 0, none⟩) xs.length cap) xs i x w) := by
  have hcell : ∀ j, w.cell? ⟨g, j, none⟩ = cur[j]? := fun j => cell_of_row w g j cur _ (0, 0) hb
  have hfro : ∀ j, w.frozen? ⟨g, j, none⟩ = false := fun j => by simp [World.frozen?, hb]
  have hcs : ∀ j v, (xs.map (Value.int .i64))[j]? = some v → w.cell? ⟨g, 0 + j, none⟩ = some v := fun j v hj => by
    rw [Nat.zero_add, hcell]
    rw [← ht, List.getElem?_take] at hj
    split at hj
    · simpa using hj
    · cases hj
  by_cases hr : xs.length + 1 ≤ cap
  · have h := Any2.slices_Insert_int_shift Tryz.insertA g 0 xs.length cap i vb 0 1 1 (xs.map (Value.int .i64)) [.int .i64 x] w hi (by omega) hr (by unfold maxLen at hm; omega) hne (by simp) rfl hcs (fun j hj => by rw [hcell]; simp; omega) (fun j hj => hfro _) (one_at hvb) (oneInts xs) (by simp [Value.oneCell'])
      3 3 1 cap (by have := hvb; unfold Blk at this; simp [World.shape?, this]) (by simp [World.shape?, hb, hs]) (by omega) (hvb.frozen 0) (hvb.frozen 1)
    refine h.mono ?_
    rintro e w' ⟨rfl, rfl⟩
    have hb0 : w.drew.heap[g]? = some (.cells cur 3 (0, 0)) := hb
    obtain ⟨h1, h2, h3⟩ := setCells_blk ((xs.map (Value.int .i64)).drop i) (0 + (i + 1)) cur w.drew hb0 (by simp; omega)
    obtain ⟨q1, q2, q3⟩ := setCells_blk [Value.int .i64 x] (0 + i) _ _ h1 (by simp; omega)
    refine ⟨_, rfl, ?_, ?_, .inl rfl⟩
    · refine own_set (insL_len (by omega)) q1 hbg hr hm (by simp; omega) ?_
      rw [insL_map, ← ht]
      have hcl : cur.toList.length = cap := by simpa using hs
      have := shift_list cur.toList xs.length i (Value.int .i64 x) hi (by omega)
      rw [ht] at this ⊢
      exact this
    · exact World.grownBy.trans (b := w.drew) ⟨rfl, rfl, rfl, Nat.le_refl _, fun _ _ _ => rfl⟩ (h2.trans q2)
  · have h := Any2.slices_Insert_int_grow Tryz.insertA g 0 xs.length cap i vb 0 1 1 (xs.map (Value.int .i64)) [.int .i64 x] w hi (by omega) hc (by omega) (by omega) (by simp) rfl hcs (one_at hvb) (oneInts xs) (by simp [Value.oneCell'])
    simp only [show Tryz.insertA_ren.t 3 = 3 from rfl] at h
    refine h.mono ?_
    rintro e w' ⟨rfl, rfl⟩
    have hm2 : grownCap w (xs.length + 1) cap 3 ≤ maxLen := grownCap_le_maxLen w _ _ _ (by unfold maxLen; omega)
    have hg := grownCap_ge w (xs.length + 1) cap 3
    generalize hG : grownCap w (xs.length + 1) cap 3 = G at *
    have z1 := zc_size (xs.length + 1 - i)
    have z2 := zc_size (G - (xs.length + 1))
    generalize hZ1 : Builtin.zeroCells (Value.int .i64 0).cells (xs.length + 1 - i) = Z1 at *
    generalize hZ2 : Builtin.zeroCells (Value.int .i64 0).cells (G - (xs.length + 1)) = Z2 at *
    have hb0 : (w.alloc (.cells (((xs.map (Value.int .i64)).take i).toArray ++ Z1 ++ Z2) 3)).drew.heap[w.heap.size]? = some (.cells (((xs.map (Value.int .i64)).take i).toArray ++ Z1 ++ Z2) 3 (0, 0)) := heap_alloc_new w _
    have hsz : (((xs.map (Value.int .i64)).take i).toArray ++ Z1 ++ Z2).size = G := by
      simp only [Array.size_append, z1, z2, List.size_toArray, List.length_take, List.length_map]; omega
    obtain ⟨h1, h2, h3⟩ := setCells_blk [Value.int .i64 x] i _ _ hb0 (by rw [hsz]; simp; omega)
    have h1d := h1
    obtain ⟨q1, q2, q3⟩ := setCells_blk ((xs.map (Value.int .i64)).drop i) (i + 1) _ (((w.alloc (.cells (((xs.map (Value.int .i64)).take i).toArray ++ Z1 ++ Z2) 3)).drew.setCells w.heap.size i [.int .i64 x]).drew) h1d (by
      have hq : (((xs.map (Value.int .i64)).take i).toArray ++ Z1 ++ Z2).toList.length = G := by rw [Array.length_toList, hsz]
      simp only [List.size_toArray, List.length_append, List.length_take, List.length_drop, hq, List.length_map, List.length_singleton]; omega)
    refine ⟨_, rfl, ?_, ?_, .inr rfl⟩
    · refine own_set (insL_len (by omega)) q1 hbase hg hm2 ?_ ?_
      · have hq : (((xs.map (Value.int .i64)).take i).toArray ++ Z1 ++ Z2).toList.length = G := by rw [Array.length_toList, hsz]
        simp only [List.size_toArray, List.length_append, List.length_take, List.length_drop, hq, List.length_map, List.length_singleton]; omega
      · rw [insL_map]
        have := grow_list (xs.map (Value.int .i64)) (Z1.toList ++ Z2.toList) xs.length i (Value.int .i64 x) hi (by simp) (by simp only [List.length_append, Array.length_toList, z1]; omega)
        simpa using this
    · have g0 : w.grownBy (w.alloc (.cells (((xs.map (Value.int .i64)).take i).toArray ++ Z1 ++ Z2) 3)).drew (some g) := ⟨rfl, rfl, rfl, by simp, fun k hk _ => Below.heap_alloc w _ k hk⟩
      have gd := h2.trans (show World.grownBy _ (((w.alloc (.cells (((xs.map (Value.int .i64)).take i).toArray ++ Z1 ++ Z2) 3)).drew.setCells w.heap.size i [.int .i64 x]).drew) (some w.heap.size) from drew_grown _ _)
      exact g0.andThen (gd.trans q2) (fun j hj => by injection hj with hj; subst hj; exact .inl (Nat.le_refl _))
theorem insert_any (w : World) (base : Nat) (v : Value) (xs : List Int) (i : Nat) (x : Int) (vb : Nat) (hown : OwnInts w base v xs) (hi : i ≤ xs.length) (hvb : Blk w vb 3 #[.int .i64 x]) (hne : v.ownBlock ≠ some vb) (hbase : base ≤ w.heap.size) (hl : xs.length ≤ 1000000) :
    Calls Tryz.prog 132 #[v, .int .i64 i, .slice (some ⟨vb, 0, none⟩) 1 1] w (InsIs base v xs i x w) := by
  obtain ⟨h1, ⟨rfl, h0⟩ | ⟨g, cap, cur, rfl, hbg, hb, hc, hm, hs, ht⟩⟩ := hown
  · have hx : xs = [] := List.length_eq_zero_iff.1 h0
    subst hx
    obtain rfl : i = 0 := by simpa using hi
    exact insert_none w base x vb hvb hbase
  · simp only [Nat.mul_one] at hs ht
    rcases Nat.lt_or_ge i xs.length with hlt | hge
    · exact insert_mid w base g cap xs i cur x vb hb hbg hc hm hs ht hlt hvb (fun e => hne (by rw [e]; rfl)) hbase hl
    · obtain rfl : i = xs.length := by omega
      exact insert_end w base g cap xs cur x vb hb hbg hc hm hs ht hvb hbase hl
end Go.Proofs.YtkmfdiboekoioaaGreat
