/- The walk of the function that lists a set's numbers, rising. Conditions: the set's numbers lie from 0 on and below a bound. -/
import Derived.Test.YtkmfdiboekoioaaGreatCMaps
import Derived.Test.YtkmfdiboekoioaaGreatCLays
import Derived.Shelf.SlMaps.Clone
set_option linter.unusedSimpArgs false
set_option linter.unusedVariables false
namespace Go.Proofs.YtkmfdiboekoioaaGreat
open Go.RowKit Go.Maps Go.Sort Go.Shelf Go.MapKept Go.ChangeMaps Go.WideShapes
open Go.WideElems (Fit)

/-- The numbers of a set below N, rising. -/
def listOf (N : Nat) (p : ISet) : List Int := ((List.range N).filter (fun (i : Nat) => p (i : Int))).map (fun (i : Nat) => (i : Int))
def Bounded (N : Nat) (p : ISet) : Prop := ∀ x, p x = true → 0 ≤ x ∧ x < N
theorem mem_listOf {N : Nat} {p : ISet} (hb : Bounded N p) (x : Int) : x ∈ listOf N p ↔ p x = true := by
 unfold listOf
 simp only [List.mem_map, List.mem_filter, List.mem_range]
 constructor
 ·rintro ⟨i, ⟨_, h⟩, rfl⟩; exact h
 ·intro h
  obtain ⟨h0, h1⟩ := hb x h
  exact ⟨x.toNat, ⟨by omega, by rw [Int.toNat_of_nonneg h0]; exact h⟩, Int.toNat_of_nonneg h0⟩
theorem listOf_nodup (N : Nat) (p : ISet) : (listOf N p).Nodup := by
 unfold listOf
 refine List.pairwise_map.2 (List.Pairwise.imp ?_ ((List.nodup_range).filter _))
 intro a b h q
 exact h (by omega)
theorem listOf_sorted (N : Nat) (p : ISet) : (listOf N p).Pairwise (fun a b => decide (a ≤ b) = true) := by
 unfold listOf
 refine List.pairwise_map.2 (List.Pairwise.imp ?_ ((List.pairwise_lt_range (n := N)).filter _))
 intro a b h
 simp only [decide_eq_true_eq]; omega
theorem listOf_len (N : Nat) (p : ISet) : (listOf N p).length ≤ N := by
 unfold listOf
 rw [List.length_map]
 exact Nat.le_trans (List.length_filter_le _ _) (by simp)
theorem sorted_is {N : Nat} {p : ISet} {ss : List Int} (h : ss.Perm (listOf N p)) : ss.mergeSort (fun x y => decide (x ≤ y)) = listOf N p := by
 have tr : ∀ a b c : Int, decide (a ≤ b) = true → decide (b ≤ c) = true → decide (a ≤ c) = true := fun a b c h1 h2 => by simp only [decide_eq_true_eq] at *; omega
 have to : ∀ a b : Int, (decide (a ≤ b) || decide (b ≤ a)) = true := fun a b => by simp only [Bool.or_eq_true, decide_eq_true_eq]; omega
 refine List.Perm.eq_of_pairwise (le := fun a b => decide (a ≤ b) = true) (fun a b _ _ h1 h2 => ?_) (List.pairwise_mergeSort tr to ss) (listOf_sorted N p) ((List.mergeSort_perm ss _).trans h)
 simp only [decide_eq_true_eq] at h1 h2; omega

/-- Whatever an element holds, it reads as nothing. -/
def rNone : Value → Option (DataW Unit × List MemPlace) := fun _ => some (.nil, [])

theorem SetM.owns {P : Program} {w : World} {r N : Nat} {p : ISet} {K : TypeId} (h : SetM w r p) (hb : Bounded N p) (hN : N ≤ lim) (hk : P.underlying K = some (.int .i64)) :
  ∃ (D : DataW Unit) (nn : Nat), w.ownsMap P K rNone r nn D ∧ (intKeys D).Perm (listOf N p) ∧ Maps.size D ≤ N := by
 unfold lim at hN
 obtain ⟨es, clock, hh, hm⟩ := h
 have hwf : ∀ x : Int, p x = true → (Lit.int .i64 x).wf = true := fun x hx => by
  obtain ⟨h0, h1⟩ := hb x hx
  exact WalkArith.wf_i64 (by omega)
 have hp : ∀ e ∈ es.toList, ∃ x : Int, e.key = .int .i64 x ∧ p x = true ∧ keyOf P K e.key = some (.int .i64 x) := fun e he => by
  obtain ⟨x, y, hx, _, hmx, _⟩ := hm.1 e he
  have hpx : p x = true := by
   unfold setF at hmx
   by_cases q : p x = true
   ·exact q
   ·simp [q] at hmx
  exact ⟨x, hx, hpx, by rw [hx]; exact keyOf_int_mk hk (hwf x hpx)⟩
 have hrd : ∀ e ∈ es.toList, ∃ x : Int, e.key = .int .i64 x ∧ WideElems.rd P K rNone e = some (.int .i64 x, .nil) := fun e he => by
  obtain ⟨x, hx, _, hkey⟩ := hp e he
  exact ⟨x, hx, by unfold WideElems.rd; rw [hkey]; rfl⟩
 have hperm : (es.toList.map (fun e => keyInt e.key)).Perm (listOf N p) := by
  obtain ⟨l, _, _, _⟩ := hm.card
  refine (List.perm_ext_iff_of_nodup ?_ (listOf_nodup N p)).2 fun x => ?_
  ·rw [List.Nodup, List.pairwise_map]
   refine hm.2.2.imp_of_mem ?_
   intro a b ha hb' hab q
   obtain ⟨x, hx, _⟩ := hp a ha
   obtain ⟨y, hy, _⟩ := hp b hb'
   rw [hx, hy] at q
   simp only [keyInt] at q
   exact hab.1 (by rw [hx, hy, q])
  ·rw [mem_listOf hb]
   simp only [List.mem_map]
   constructor
   ·rintro ⟨e, he, rfl⟩
    obtain ⟨x, hx, hpx, _⟩ := hp e he
    rw [hx]; exact hpx
   ·intro hx
    obtain ⟨e, he, hk', _⟩ := hm.2.1 x 1 (by simp [setF, hx])
    exact ⟨e, he, by rw [hk']; rfl⟩
 have hsz : es.size ≤ N := by
  have := hperm.length_eq
  rw [List.length_map] at this
  have := listOf_len N p
  simp only [Array.length_toList] at *
  omega
 have hst : Stamped es clock := (stamped_iff es clock).2 ⟨fun e he => by obtain ⟨_, _, _, _, _, hlt⟩ := hm.1 e he; exact hlt, by
  rw [List.Nodup, List.pairwise_map]; exact hm.2.2.imp (fun h => h.2), hm.2.2.imp (fun h => h.1)⟩
 refine ⟨_, es.size, ⟨es, clock, hh, ⟨by unfold maxLen; omega, hst, fun e he => by obtain ⟨x, _, h⟩ := hrd e he; exact ⟨_, h⟩⟩, Nat.le_refl _, rfl⟩, ?_, ?_⟩
 ·refine List.Perm.trans ?_ hperm
  unfold intKeys
  refine ((sorted_perm _).map _).trans ?_
  rw [List.map_map]
  refine List.Perm.of_eq (List.map_congr_left fun e he => ?_)
  obtain ⟨x, hx, hr⟩ := hrd e he
  simp only [Function.comp, WideElems.rg_of hr, hx, keyInt]
  rfl
 ·simp only [Maps.size]
  rw [length_sorted]
  simpa using hsz

theorem sortsA (m : Nat) : AnyZI.SortsIn Tryz.prog Tryz.sortedA_ren Fence.wide m :=
  ⟨fun blk off cap ss W hH hblk hsz => callsIn_wide.2 (AnyM.slices_Sort_int Tryz.sortA blk off cap ss W hH hblk hsz),
   fun p cap W => callsIn_wide.2 (AnyM.slices_Sort_int_none Tryz.sortA p cap W)⟩

def ListIs (N : Nat) (p : ISet) (w : World) (e : Ending) (w' : World) : Prop := ∃ v, e = .returned v ∧ OwnInts w' w.heap.size v (listOf N p) ∧ Below w.heap.size w w'

set_option maxHeartbeats 1000000 in
theorem list_any (b N : Nat) (p : ISet) (w : World) (hset : SetM w b p) (hb : Bounded N p) (hN : N ≤ lim) : Calls Tryz.prog 52 #[.map (some b)] w (ListIs N p w) := by
 refine (callsIn_wide (n := 6)).1 ?_
 obtain ⟨D0, nn, hown, hperm, hsize⟩ := hset.owns (P := Tryz.prog) hb hN Tryz.underlying3
 unfold lim at hN
 have hmax : Maps.size D0 ≤ maxLen := by unfold maxLen; omega
 have hbytes : Maps.size D0 * 8 ≤ 140737488355328 := by omega
 have hbl := hown.lt
 have hseq : SeqGives Fence.wide 2 Tryz.prog 141 #[.pointer (some ⟨w.heap.size, 0, none⟩)] encZ (fun ss => ss.Perm (intKeys D0)) (Maps.size D0) (w.alloc (.cells #[.map (some b)] 95)) :=
  AnyZI.keys_gives (ρ := Tryz.keysA_ren) { Tryz.keysA with } Fence.wide _ trivial rfl (by omega) w.heap.size b nn D0 _ (by simp) (by simp) (by
   obtain ⟨es, clock, hb, Ft, hs, hD⟩ := hown
   exact ⟨es, clock, (Below.heap_alloc _ _ b hbl).trans hb, Ft, hs, hD⟩)
 have cK : ∀ mb W, CallsIn Fence.wide 5 Tryz.prog 99 #[.map mb] W fun e w' => e = .returned (.func (.func 141) #[] #[.pointer (some ⟨W.heap.size, 0, none⟩)]) ∧ w' = W.alloc (.cells #[.map mb] 95) := fun mb W => AnyZI.keys_in Tryz.keysA Fence.wide 5 trivial rfl mb W
 have cS := AnyZI.sorted_in Tryz.sortedA Fence.wide 5 trivial trivial trivial trivial rfl (by omega) (sortsA _) (enters_of Tryz.func140 (by kernel_rfl) rfl) 141 #[.pointer (some ⟨w.heap.size, 0, none⟩)] trivial (enters_of Tryz.func141 (by kernel_rfl) rfl) _ _ hmax hbytes _ hseq
 change CallsIn _ _ Tryz.prog 98 _ _ _ at cS
 have hfK : Fence.wide.fn 99 := trivial
 have hfS : Fence.wide.fn 98 := trivial
 have HP := Lib.hid hperm
 clear hset hb hown hperm hseq
 refine callsIn_of_wp Tryz.func52 rfl trivial ?_ rfl
 simp only [Tryz.ntmps52, List.size_toArray, List.length_cons, List.length_nil, Nat.reduceAdd, Nat.reduceSub, Array.replicate_succ, Array.replicate_zero, List.push_toArray, List.append_toArray, List.nil_append, List.cons_append]
 gi_wp2_with (first
  | (gi_at_call 99; refine (cK _ _).mono ?_; rintro e w' ⟨rfl, rfl⟩)
  | (gi_at_call 98; refine cS.mono ?_; rintro e w' ⟨v, ss, rfl, hS, hrow, hnil, hb⟩))
 go_ret
 refine ⟨v, rfl, ?_, ((Below.refl _ w).alloc (Nat.le_refl _) _).trans (hb.mono (by simp))⟩
 have hp2 := hS.trans HP.out
 have h1 := ownsRow_base_a hrow (show w.heap.size ≤ _ by simp)
 rw [sorted_is hp2, hp2.length_eq] at h1
 exact h1

set_option maxHeartbeats 1000000 in
theorem list_nil (w : World) : Calls Tryz.prog 52 #[.map none] w (ListIs 0 (fun _ => false) w) := by
 refine (callsIn_wide (n := 6)).1 ?_
 have hseq : SeqGives Fence.wide 2 Tryz.prog 141 #[.pointer (some ⟨w.heap.size, 0, none⟩)] encZ (fun ss : List Int => ss = []) 0 (w.alloc (.cells #[.map none] 95)) :=
  AnyZI.keys_gives_nil (ρ := Tryz.keysA_ren) { Tryz.keysA with } Fence.wide _ trivial rfl w.heap.size _ (by simp) (by simp)
 have cK : ∀ mb W, CallsIn Fence.wide 5 Tryz.prog 99 #[.map mb] W fun e w' => e = .returned (.func (.func 141) #[] #[.pointer (some ⟨W.heap.size, 0, none⟩)]) ∧ w' = W.alloc (.cells #[.map mb] 95) := fun mb W => AnyZI.keys_in Tryz.keysA Fence.wide 5 trivial rfl mb W
 have cS := AnyZI.sorted_in Tryz.sortedA Fence.wide 5 trivial trivial trivial trivial rfl (by omega) (sortsA _) (enters_of Tryz.func140 (by kernel_rfl) rfl) 141 #[.pointer (some ⟨w.heap.size, 0, none⟩)] trivial (enters_of Tryz.func141 (by kernel_rfl) rfl) _ 0 (Nat.zero_le _) (by omega) _ hseq
 change CallsIn _ _ Tryz.prog 98 _ _ _ at cS
 have hfK : Fence.wide.fn 99 := trivial
 have hfS : Fence.wide.fn 98 := trivial
 clear hseq
 refine callsIn_of_wp Tryz.func52 rfl trivial ?_ rfl
 simp only [Tryz.ntmps52, List.size_toArray, List.length_cons, List.length_nil, Nat.reduceAdd, Nat.reduceSub, Array.replicate_succ, Array.replicate_zero, List.push_toArray, List.append_toArray, List.nil_append, List.cons_append]
 gi_wp2_with (first
  | (gi_at_call 99; refine (cK _ _).mono ?_; rintro e w' ⟨rfl, rfl⟩)
  | (gi_at_call 98; refine cS.mono ?_; rintro e w' ⟨v, ss, rfl, rfl, hrow, hnil, hb⟩; obtain rfl : v = .slice none 0 0 := hnil.2 rfl))
 go_ret
 exact ⟨_, rfl, OwnInts.nil _ _, ((Below.refl _ w).alloc (Nat.le_refl _) _).trans (hb.mono (by simp))⟩
end Go.Proofs.YtkmfdiboekoioaaGreat

/- The walks of maps.Clone and maps.Equal at sets of numbers. No condition but that the maps are such sets. -/
namespace Go.Proofs.YtkmfdiboekoioaaGreat
open Go.RowKit Go.MapKept

def CloneIs (p : ISet) (w : World) (e : Ending) (w' : World) : Prop := e = .returned (.map (some w.heap.size)) ∧ SetM w' w.heap.size p ∧ Below w.heap.size w w' ∧ w'.heap.size = w.heap.size + 1
set_option maxHeartbeats 1000000 in
theorem clone_any (b : Nat) (p : ISet) (w : World) (hset : SetM w b p) : Calls Tryz.prog 53 #[.map (some b)] w (CloneIs p w) := by
 obtain ⟨es, clock, hb, hm⟩ := hset
 refine (AnyW.maps_Clone Tryz.cloneA b es clock w hb).mono ?_
 rintro e w' ⟨rfl, rfl⟩
 exact ⟨rfl, ⟨es, clock, heap_alloc_new w _, hm⟩, (Below.refl _ _).alloc (Nat.le_refl _) _, by simp⟩

theorem setF_some (p : ISet) (x : Int) : (setF p x).isSome = p x := by unfold setF; cases p x <;> rfl
theorem setF_val {p : ISet} {x y : Int} (h : setF p x = some y) : p x = true ∧ y = 1 := by
 unfold setF at h
 cases q : p x
 ·rw [q] at h; simp at h
 ·rw [q] at h; simp at h; exact ⟨rfl, h.symm⟩
theorem setF_getD (p : ISet) (x : Int) (h : p x = true) : (setF p x).getD 0 = 1 := by unfold setF; rw [h]; rfl

def EqualIs (p q : ISet) (w : World) (e : Ending) (w' : World) : Prop := ∃ b : Bool, e = .returned (.bool b) ∧ (b = true ↔ p = q) ∧ Below w.heap.size w w'
set_option maxRecDepth 100000 in
set_option maxHeartbeats 2000000 in
theorem equal_any (r1 r2 : Nat) (p q : ISet) (w : World) (h1 : SetM w r1 p) (h2 : SetM w r2 q) : Calls Tryz.prog 55 #[.map (some r1), .map (some r2)] w (EqualIs p q w) := by
 obtain ⟨n1, hn1, hl1⟩ := IMap.len (P := Tryz.prog) h1 Tryz.underlying95
 obtain ⟨n2, hn2, hl2⟩ := IMap.len (P := Tryz.prog) h2 Tryz.underlying95
 have L1 := h1.lt; have L2 := h2.lt
 have HN1 := Lib.hid hn1; have HN2 := Lib.hid hn2; clear hn1 hn2
 have H1 := Lib.hid h1; have H2 := Lib.hid h2; clear h1 h2
 by_cases hn : n1 = n2
 ·subst hn
  have hnb : (((n1 : Nat) : Int) != (n1 : Int)) = false := by simp
  obtain ⟨cnt, w1, hrun, hit, hg, hsz⟩ := IMap.range (P := Tryz.prog) H1.out Tryz.underlying95
  have HIt := Lib.hid hit; have HG := Lib.hid hg; have HSz := Lib.hid hsz
  clear hit hg hsz
  have h21 : SetM w1 r2 q := IMap.grown H2.out HG.out (by simp)
  have hb1 : Below w.heap.size w w1 := (Below.refl _ _).grown HG.out (Nat.le_refl _) (by simp)
  have H21 := Lib.hid h21; have HB1 := Lib.hid hb1; clear h21 hb1
  go_enter Tryz.func55, Tryz.ntmps55
  go_wp2_with fail
  clear hrun hl1 hl2
  go_loopg [5] cnt (fun k _ wr => ∃ left, Iter wr w.heap.size r1 (setF p) left k ∧ SetM wr r2 q ∧ Hid (∀ x, p x = true → left x = false → q x = true) ∧ Below w.heap.size w wr)
  case atStart => exact ⟨_, HIt.out, H21.out, Lib.hid (fun x h h' => by rw [setF_some, h] at h'; cases h'), HB1.out⟩
  case round =>
   obtain ⟨left, hit, hs2, hall, hb⟩ := hrel
   rcases Iter.next (P := Tryz.prog) hit 0 with ⟨hdone, hrun⟩ | ⟨x, y, w2, cnt', hlx, hmx, hrun, hit2, hlt, hg2, hs, hent⟩
   ·have HD := Lib.hid hdone
    have HB := Lib.hid hb
    clear hdone hit hs2 hb
    go_wp2_with fail
    go_ret
    refine ⟨true, rfl, ⟨fun _ => ?_, fun _ => rfl⟩, HB.out⟩
    have hsub : ∀ x, (setF p x).isSome = true → (setF q x).isSome = true := fun x hx => by
     rw [setF_some] at hx ⊢
     exact hall.out x hx (HD.out x)
    funext x
    cases hp : p x
    ·cases hq : q x
     ·rfl
     ·have := CardIs.back HN1.out HN2.out hsub x (by rw [setF_some]; exact hq)
      rw [setF_some, hp] at this; cases this
    ·have := hsub x (by rw [setF_some]; exact hp)
     rw [setF_some] at this
     exact this.symm
   ·obtain ⟨hpx, rfl⟩ := setF_val hmx
    have hs22 : SetM w2 r2 q := IMap.grown hs2 hg2 (by simp; omega)
    have hb2 : Below w.heap.size w w2 := hb.grown hg2 hb.size (by simp)
    have HIt2 := Lib.hid hit2; have HS22 := Lib.hid hs22; have HB2 := Lib.hid hb2; have HPx := Lib.hid hpx
    have hz : (zeroValue 3).run Tryz.prog w2 = .ok (.int .i64 0) w2 := by kernel_rfl
    have hlook := (IMap.look (P := Tryz.prog) HS22.out Tryz.underlying95 Tryz.underlying3 hz x).2
    rw [setF_some] at hlook
    clear hit hs2 hb hit2 hs22 hb2 hpx hmx hlx hg2 hs hz
    by_cases hq : q x = true
    ·rw [hq, setF_getD q x hq] at hlook
     have HQ := Lib.hid hq; clear hq
     go_wp2_with fail
     go_roundg cnt'
     case measure => exact hlt
     case rel => exact ⟨_, HIt2.out, HS22.out, Lib.hid (fun z hz hz' => by
      by_cases e : z = x
      ·rw [e]; exact HQ.out
      ·have hb : (z == x) = false := by simp [e]
       rw [hb] at hz'
       exact hall.out z hz (by simpa using hz')), HB2.out⟩
    ·have hq' : q x = false := by simpa using hq
     rw [hq'] at hlook
     have HQ := Lib.hid hq'; clear hq hq'
     have hg0 : ∃ c, (setF q x).getD 0 = c := ⟨_, rfl⟩
     obtain ⟨c, hc⟩ := hg0
     rw [hc] at hlook
     clear hc
     go_wp2_with fail
     go_ret
     refine ⟨false, rfl, ⟨fun h => Bool.noConfusion h, fun h => ?_⟩, HB2.out⟩
     have := HPx.out
     rw [h, HQ.out] at this
     exact this
 ·have hnb : (((n1 : Nat) : Int) != (n2 : Int)) = true := by simp; omega
  have HNe := Lib.hid hn; clear hn
  go_enter Tryz.func55, Tryz.ntmps55
  go_wp2_with fail
  go_ret
  refine ⟨false, rfl, ⟨fun h => Bool.noConfusion h, fun h => ?_⟩, Below.refl _ _⟩
  subst h
  exact absurd (CardIs.one HN1.out HN2.out) HNe.out
end Go.Proofs.YtkmfdiboekoioaaGreat
