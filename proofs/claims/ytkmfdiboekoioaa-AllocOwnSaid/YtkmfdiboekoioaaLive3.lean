/- The walk of the function that lists a set's numbers, rising. Conditions: the set's numbers lie from 0 on and below a bound. -/
import Derived.Test.YtkmfdiboekoioaaLive2
import Derived.Test.YtkmfdiboekoioaaLays
namespace Go.Proofs.Ytkmfdiboekoioaa
open Go.RowKit Go.Maps Go.Sort Go.Shelf Go.MapKept Go.ChangeMaps Go.WideShapes
open Go.WideElems (Fit)

/-- The numbers of a set below N, rising. -/
def listOf (N : Nat) (p : ISet) : List Int := ((List.range N).filter (fun (i : Nat) => p (i : Int))).map (fun (i : Nat) => (i : Int))
def Bounded (N : Nat) (p : ISet) : Prop := ∀ x, p x = true → 0 ≤ x ∧ x < N
theorem mem_listOf {N : Nat} {p : ISet} (hb : Bounded N p) (x : Int) : x ∈ listOf N p ↔ p x = true := by
  unfold listOf
  simp only [List.mem_map, List.mem_filter, List.mem_range]
  constructor
  · rintro ⟨i, ⟨_, h⟩, rfl⟩; exact h
  · intro h
    obtain ⟨h0, h1⟩ := hb x h
    exact ⟨x.toNat, ⟨by omega, by rw [Int.toNat_of_nonneg h0]; exact h⟩, Int.toNat_of_nonneg h0⟩
theorem listOf_nodup (N : Nat) (p : ISet) : (listOf N p).Nodup := by
  unfold listOf
  refine List.pairwise_map.2 (List.Pairwise.imp ?_ ((List.nodup_range).filter _))
  intro a b h q
  exact h (by omega)
theorem listOf_sorted (N : Nat) (p : ISet) : (listOf N p).Pairwise (fun a b => decide (a ≤ b) = true) := by
  unfold listOf
  refine List.pairwise_map.2 (List.Pairwise.imp ?_ ((List.pairwise_lt_range (n := N)).filter _))
  intro a b h
  simp only [decide_eq_true_eq]; omega
theorem listOf_len (N : Nat) (p : ISet) : (listOf N p).length ≤ N := by
  unfold listOf
  rw [List.length_map]
  exact Nat.le_trans (List.length_filter_le _ _) (by simp)
theorem sorted_is {N : Nat} {p : ISet} {ss : List Int} (h : ss.Perm (listOf N p)) : ss.mergeSort (fun x y => decide (x ≤ y)) = listOf N p := by
  have tr : ∀ a b c : Int, decide (a ≤ b) = true → decide (b ≤ c) = true → decide (a ≤ c) = true := fun a b c h1 h2 => by simp only [decide_eq_true_eq] at *; omega
  have to : ∀ a b : Int, (decide (a ≤ b) || decide (b ≤ a)) = true := fun a b => by simp only [Bool.or_eq_true, decide_eq_true_eq]; omega
  refine List.Perm.eq_of_pairwise (le := fun a b => decide (a ≤ b) = true) (fun a b _ _ h1 h2 => ?_) (List.pairwise_mergeSort tr to ss) (listOf_sorted N p) ((List.mergeSort_perm ss _).trans h)
  simp only [decide_eq_true_eq] at h1 h2; omega

/-- Whatever an element holds, it reads as nothing. -/
def rNone : Value → Option (DataW Unit × List MemPlace) := fun _ => some (.nil, [])

theorem SetM.owns {P : Program} {w : World} {r N : Nat} {p : ISet} {K : TypeId} (h : SetM w r p) (hb : Bounded N p) (hN : N ≤ lim) (hk : P.underlying K = some (.int .i64)) :
    ∃ (D : DataW Unit) (nn : Nat), w.ownsMap P K rNone r nn D ∧ (intKeys D).Perm (listOf N p) ∧ Maps.size D ≤ N := by
  unfold lim at hN
  obtain ⟨es, clock, hh, hm⟩ := h
  have hwf : ∀ x : Int, p x = true → (Lit.int .i64 x).wf = true := fun x hx => by
    obtain ⟨h0, h1⟩ := hb x hx
    exact WalkArith.wf_i64 (by omega)
  have hp : ∀ e ∈ es.toList, ∃ x : Int, e.key = .int .i64 x ∧ p x = true ∧ keyOf P K e.key = some (.int .i64 x) := fun e he => by
    obtain ⟨x, y, hx, _, hmx, _⟩ := hm.1 e he
    have hpx : p x = true := by
      unfold setF at hmx
      by_cases q : p x = true
      · exact q
      · simp [q] at hmx
    exact ⟨x, hx, hpx, by rw [hx]; exact keyOf_int_mk hk (hwf x hpx)⟩
  have hrd : ∀ e ∈ es.toList, ∃ x : Int, e.key = .int .i64 x ∧ WideElems.rd P K rNone e = some (.int .i64 x, .nil) := fun e he => by
    obtain ⟨x, hx, _, hkey⟩ := hp e he
    exact ⟨x, hx, by unfold WideElems.rd; rw [hkey]; rfl⟩
  have hperm : (es.toList.map (fun e => keyInt e.key)).Perm (listOf N p) := by
    obtain ⟨l, _, _, _⟩ := hm.card
    refine (List.perm_ext_iff_of_nodup ?_ (listOf_nodup N p)).2 fun x => ?_
    · rw [List.Nodup, List.pairwise_map]
      refine hm.2.2.imp_of_mem ?_
      intro a b ha hb' hab q
      obtain ⟨x, hx, _⟩ := hp a ha
      obtain ⟨y, hy, _⟩ := hp b hb'
      rw [hx, hy] at q
      simp only [keyInt] at q
      exact hab.1 (by rw [hx, hy, q])
    · rw [mem_listOf hb]
      simp only [List.mem_map]
      constructor
      · rintro ⟨e, he, rfl⟩
        obtain ⟨x, hx, hpx, _⟩ := hp e he
        rw [hx]; exact hpx
      · intro hx
        obtain ⟨e, he, hk', _⟩ := hm.2.1 x 1 (by simp [setF, hx])
        exact ⟨e, he, by rw [hk']; rfl⟩
  have hsz : es.size ≤ N := by
    have := hperm.length_eq
    rw [List.length_map] at this
    have := listOf_len N p
    simp only [Array.length_toList] at *
    omega
  have hst : Stamped es clock := (stamped_iff es clock).2 ⟨fun e he => by obtain ⟨_, _, _, _, _, hlt⟩ := hm.1 e he; exact hlt, by
    rw [List.Nodup, List.pairwise_map]; exact hm.2.2.imp (fun h => h.2), hm.2.2.imp (fun h => h.1)⟩
  refine ⟨_, es.size, ⟨es, clock, hh, ⟨by unfold maxLen; omega, hst, fun e he => by obtain ⟨x, _, h⟩ := hrd e he; exact ⟨_, h⟩⟩, Nat.le_refl _, rfl⟩, ?_, ?_⟩
  · refine List.Perm.trans ?_ hperm
    unfold intKeys
    refine ((sorted_perm _).map _).trans ?_
    rw [List.map_map]
    refine List.Perm.of_eq (List.map_congr_left fun e he => ?_)
    obtain ⟨x, hx, hr⟩ := hrd e he
    simp only [Function.comp, WideElems.rg_of hr, hx, keyInt]
    rfl
  · simp only [Maps.size]
    rw [length_sorted]
    simpa using hsz

theorem sortsA (m : Nat) : AnyZI.SortsIn Try.prog Try.sortedA_ren Fence.wide m :=
  ⟨fun blk off cap ss W hH hblk hsz => callsIn_wide.2 (AnyM.slices_Sort_int Try.sortA blk off cap ss W hH hblk hsz),
   fun p cap W => callsIn_wide.2 (AnyM.slices_Sort_int_none Try.sortA p cap W)⟩

def ListIs (N : Nat) (p : ISet) (w : World) (e : Ending) (w' : World) : Prop := ∃ v, e = .returned v ∧ OwnInts w' w.heap.size v (listOf N p) ∧ Below w.heap.size w w'

set_option maxHeartbeats 1000000 in
theorem list_any (b N : Nat) (p : ISet) (w : World) (hset : SetM w b p) (hb : Bounded N p) (hN : N ≤ lim) : Calls Try.prog 46 #[.map (some b)] w (ListIs N p w) := by
  refine (callsIn_wide (n := 6)).1 ?_
  obtain ⟨D0, nn, hown, hperm, hsize⟩ := hset.owns (P := Try.prog) hb hN Try.underlying3
  unfold lim at hN
  have hmax : Maps.size D0 ≤ maxLen := by unfold maxLen; omega
  have hbytes : Maps.size D0 * 8 ≤ 140737488355328 := by omega
  have hbl := hown.lt
  have hseq : SeqGives Fence.wide 2 Try.prog 57 #[.pointer (some ⟨w.heap.size, 0, none⟩)] encZ (fun ss => ss.Perm (intKeys D0)) (Maps.size D0) (w.alloc (.cells #[.map (some b)] 79)) :=
    AnyZI.keys_gives (ρ := Try.keysA_ren) { Try.keysA with } Fence.wide _ trivial rfl (by omega) w.heap.size b nn D0 _ (by simp) (by simp) (by
      obtain ⟨es, clock, hb, Ft, hs, hD⟩ := hown
      exact ⟨es, clock, (Below.heap_alloc _ _ b hbl).trans hb, Ft, hs, hD⟩)
  have cK : ∀ mb W, CallsIn Fence.wide 5 Try.prog 53 #[.map mb] W fun e w' => e = .returned (.func (.func 57) #[] #[.pointer (some ⟨W.heap.size, 0, none⟩)]) ∧ w' = W.alloc (.cells #[.map mb] 79) := fun mb W => AnyZI.keys_in Try.keysA Fence.wide 5 trivial rfl mb W
  have cS := AnyZI.sorted_in Try.sortedA Fence.wide 5 trivial trivial trivial trivial rfl (by omega) (sortsA _) (enters_of Try.func56 (by kernel_rfl) rfl) 57 #[.pointer (some ⟨w.heap.size, 0, none⟩)] trivial (enters_of Try.func57 (by kernel_rfl) rfl) _ _ hmax hbytes _ hseq
  change CallsIn _ _ Try.prog 52 _ _ _ at cS
  have hfK : Fence.wide.fn 53 := trivial
  have hfS : Fence.wide.fn 52 := trivial
  have HP := Lib.hid hperm
  clear hset hb hown hperm hseq
  refine callsIn_of_wp Try.func46 rfl trivial ?_ rfl
  simp only [Try.ntmps46, List.size_toArray, List.length_cons, List.length_nil, Nat.reduceAdd, Nat.reduceSub, Array.replicate_succ, Array.replicate_zero, List.push_toArray, List.append_toArray, List.nil_append, List.cons_append]
  gi_wp2_with (first
    | (gi_at_call 53; refine (cK _ _).mono ?_; rintro e w' ⟨rfl, rfl⟩)
    | (gi_at_call 52; refine cS.mono ?_; rintro e w' ⟨v, ss, rfl, hS, hrow, hnil, hb⟩))
  go_ret
  refine ⟨v, rfl, ?_, ((Below.refl _ w).alloc (Nat.le_refl _) _).trans (hb.mono (by simp))⟩
  have hp2 := hS.trans HP.out
  have h1 := ownsRow_base_a hrow (show w.heap.size ≤ _ by simp)
  rw [sorted_is hp2, hp2.length_eq] at h1
  exact h1

set_option maxHeartbeats 1000000 in
theorem list_nil (w : World) : Calls Try.prog 46 #[.map none] w (ListIs 0 (fun _ => false) w) := by
  refine (callsIn_wide (n := 6)).1 ?_
  have hseq : SeqGives Fence.wide 2 Try.prog 57 #[.pointer (some ⟨w.heap.size, 0, none⟩)] encZ (fun ss : List Int => ss = []) 0 (w.alloc (.cells #[.map none] 79)) :=
    AnyZI.keys_gives_nil (ρ := Try.keysA_ren) { Try.keysA with } Fence.wide _ trivial rfl w.heap.size _ (by simp) (by simp)
  have cK : ∀ mb W, CallsIn Fence.wide 5 Try.prog 53 #[.map mb] W fun e w' => e = .returned (.func (.func 57) #[] #[.pointer (some ⟨W.heap.size, 0, none⟩)]) ∧ w' = W.alloc (.cells #[.map mb] 79) := fun mb W => AnyZI.keys_in Try.keysA Fence.wide 5 trivial rfl mb W
  have cS := AnyZI.sorted_in Try.sortedA Fence.wide 5 trivial trivial trivial trivial rfl (by omega) (sortsA _) (enters_of Try.func56 (by kernel_rfl) rfl) 57 #[.pointer (some ⟨w.heap.size, 0, none⟩)] trivial (enters_of Try.func57 (by kernel_rfl) rfl) _ 0 (Nat.zero_le _) (by omega) _ hseq
  change CallsIn _ _ Try.prog 52 _ _ _ at cS
  have hfK : Fence.wide.fn 53 := trivial
  have hfS : Fence.wide.fn 52 := trivial
  clear hseq
  refine callsIn_of_wp Try.func46 rfl trivial ?_ rfl
  simp only [Try.ntmps46, List.size_toArray, List.length_cons, List.length_nil, Nat.reduceAdd, Nat.reduceSub, Array.replicate_succ, Array.replicate_zero, List.push_toArray, List.append_toArray, List.nil_append, List.cons_append]
  gi_wp2_with (first
    | (gi_at_call 53; refine (cK _ _).mono ?_; rintro e w' ⟨rfl, rfl⟩)
    | (gi_at_call 52; refine cS.mono ?_; rintro e w' ⟨v, ss, rfl, rfl, hrow, hnil, hb⟩; obtain rfl : v = .slice none 0 0 := hnil.2 rfl))
  go_ret
  exact ⟨_, rfl, OwnInts.nil _ _, ((Below.refl _ w).alloc (Nat.le_refl _) _).trans (hb.mono (by simp))⟩
end Go.Proofs.Ytkmfdiboekoioaa
