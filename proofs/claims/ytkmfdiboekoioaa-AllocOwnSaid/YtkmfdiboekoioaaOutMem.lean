/- The memory of alloc.spots between two blocks. No condition. -/
import Derived.Test.YtkmfdiboekoioaaSpotRound
import Derived.RangeFuncLeaves
namespace Go.Proofs.Ytkmfdiboekoioaa
open Go.RowKit

structure OutNums where
  B : Nat
  g2 : Nat
  t3 : Nat
  l4 : Nat
  h5 : Nat
  bo : Nat
  bm : Nat
  B2 : Nat
  ro : List Nat
  vI : Value
  vO : Value
structure OutMem (o : OutNums) (xv : GVals) (g : GraphP) (LI LO : List (List Int)) (W : World) (R : Meets) : Prop where
  gr : GCtx W o.B o.g2 xv g
  told : Blk W o.t3 56 #[.func (.func 20) #[] #[.pointer (some ⟨o.bm, 0, none⟩)]]
  there : Blk W o.h5 37 #[.func (.func 35) #[] #[.pointer (some ⟨o.g2, 0, none⟩)]]
  live : Blk W o.l4 66 #[o.vI, o.vO]
  rI : RowsV W o.B2 o.vI LI
  rO : RowsV W o.B2 o.vO LO
  hB2 : o.B2 ≤ W.heap.size
  out : Blk W o.bm 38 #[.slice (some ⟨o.bo, 0, none⟩) o.ro.length o.ro.length]
  rows : MRow W o.bo o.ro R
section
variable {o : OutNums} {xv : GVals} {g : GraphP} {LI LO : List (List Int)} {W W' : World} {R : Meets}
theorem OutMem.below (h : OutMem o xv g LI LO W R) (hb : Below W.heap.size W W') : OutMem o xv g LI LO W' R where
  gr := h.gr.below hb
  told := h.told.below hb h.told.lt
  there := h.there.below hb h.there.lt
  live := h.live.below hb h.live.lt
  rI := h.rI.keep (Same.of_below (hb.mono h.hB2))
  rO := h.rO.keep (Same.of_below (hb.mono h.hB2))
  hB2 := Nat.le_trans h.hB2 hb.size
  out := h.out.below hb h.out.lt
  rows := h.rows.later hb
theorem OutMem.alloc (h : OutMem o xv g LI LO W R) (x : Obj) : OutMem o xv g LI LO (W.alloc x) R := h.below ((Below.refl _ _).alloc (Nat.le_refl _) _)
theorem OutMem.drew (h : OutMem o xv g LI LO W R) : OutMem o xv g LI LO W.drew R := h.below ((Below.refl _ _).drew)
theorem OutMem.set_ (h : OutMem o xv g LI LO W R) {rn : Nat} {p p' : ISet} (hp : SetM W rn p) (hq : SetM W' rn p') (hg : W.grownBy W' (some rn)) (hf : rn ∉ o.ro) : OutMem o xv g LI LO W' R where
  gr := h.gr.turn hp hq hg
  told := h.told.grown hg (blk_ne_map h.told hp)
  there := h.there.grown hg (blk_ne_map h.there hp)
  live := h.live.grown hg (blk_ne_map h.live hp)
  rI := h.rI.keep fun a ha => cell_mapturn hp (.inr ⟨_, hq⟩) hg (Nat.lt_of_lt_of_le ha h.hB2)
  rO := h.rO.keep fun a ha => cell_mapturn hp (.inr ⟨_, hq⟩) hg (Nat.lt_of_lt_of_le ha h.hB2)
  hB2 := Nat.le_trans h.hB2 hg.size
  out := h.out.grown hg (blk_ne_map h.out hp)
  rows := h.rows.other hp hg hf
theorem OutMem.told_ (h : OutMem o xv g LI LO W R) {R' : Meets} (hm : MRow W' o.bo o.ro R') (ht : Turned W W' o.ro) : OutMem o xv g LI LO W' R' where
  gr := ⟨h.gr.gr.keep (same_told h.rows hm ht h.gr.hB), Nat.le_trans h.gr.hB ht.size, h.rows.blk ht h.gr.box⟩
  told := h.rows.blk ht h.told
  there := h.rows.blk ht h.there
  live := h.rows.blk ht h.live
  rI := h.rI.keep (same_told h.rows hm ht h.hB2)
  rO := h.rO.keep (same_told h.rows hm ht h.hB2)
  hB2 := Nat.le_trans h.hB2 ht.size
  out := h.rows.blk ht h.out
  rows := hm
/-- What lay ahead of a block's nodes lies so behind them. -/
theorem OutMem.behind {q : SpotNums} {y : BVals} {x : BlockP} {s : Spot} (h : OutMem o xv g LI LO W R) (hs : SpotMem q xv g y x W' s) (ht : TurnB q.base W W' (q.rn :: q.ro)) (hb : q.base = W.heap.size)
    (e1 : q.B = o.B) (e2 : q.g2 = o.g2) (e3 : q.bo = o.bo) (e4 : q.ro = o.ro) {p : ISet} (hrn : SetM W q.rn p) : OutMem o xv g LI LO W' s.meet := by
  have hb' : ∀ b t cs, Blk W b t cs → Blk W' b t cs := fun b t cs hk => by
    unfold Blk at hk ⊢
    rw [ht.block b (by rw [hb]; exact Blk.lt hk) (fun hm => by
      rcases List.mem_cons.1 hm with e | hm
      · exact blk_ne_map (show Blk W b t cs from hk) hrn (by rw [e])
      · rw [e4] at hm
        obtain ⟨j, hj⟩ := List.mem_iff_getElem?.1 hm
        exact blk_ne_map (show Blk W b t cs from hk) (h.rows.maps j b hj) rfl)]
    exact hk
  have hsame : ∀ B, B ≤ W.heap.size → Same B W W' := fun B hB a ha => by
    by_cases hm : a.block ∈ q.rn :: q.ro
    · have m1 : ∃ es c, W.heap[a.block]? = some (.map es c) := by
        rcases List.mem_cons.1 hm with e | hm
        · obtain ⟨es, c, h1, _⟩ := hrn
          rw [e]; exact ⟨es, c, h1⟩
        · rw [e4] at hm
          obtain ⟨j, hj⟩ := List.mem_iff_getElem?.1 hm
          obtain ⟨es, c, h1, _⟩ := h.rows.maps j _ hj
          exact ⟨es, c, h1⟩
      have m2 : ∃ es c, W'.heap[a.block]? = some (.map es c) := by
        rcases List.mem_cons.1 hm with e | hm
        · obtain ⟨es, c, h1, _⟩ := hs.set
          rw [e]; exact ⟨es, c, h1⟩
        · obtain ⟨j, hj⟩ := List.mem_iff_getElem?.1 hm
          obtain ⟨es, c, h1, _⟩ := hs.rows.maps j _ hj
          exact ⟨es, c, h1⟩
      obtain ⟨es, c, h1⟩ := m1
      obtain ⟨es', c', h2⟩ := m2
      simp [World.cell?, h1, h2]
    · exact World.cell?_of_block (ht.block a.block (by omega) hm)
  exact ⟨⟨h.gr.gr.keep (hsame _ h.gr.hB), Nat.le_trans h.gr.hB ht.size, hb' _ _ _ h.gr.box⟩, hb' _ _ _ h.told, hb' _ _ _ h.there, hb' _ _ _ h.live, h.rI.keep (hsame _ h.hB2), h.rO.keep (hsame _ h.hB2), Nat.le_trans h.hB2 ht.size, hb' _ _ _ h.out, by rw [← e3, ← e4]; exact hs.rows⟩
end

/-- The marks of the loops that are over: each has its block, which holds nothing. -/
def MarksOk (base0 : Nat) (W : World) (ds : List Deferred) : Prop :=
  ∃ Ds : List Nat, ds = Ds.map (fun D => { target := .collected D, args := #[] }) ∧ Ds.Nodup ∧ ∀ D ∈ Ds, base0 ≤ D ∧ W.heap[D]? = some (.deferred (some []))
theorem MarksOk.nil (base0 : Nat) (W : World) : MarksOk base0 W [] := ⟨[], rfl, by simp, fun _ h => by cases h⟩
theorem MarksOk.keep {base0 : Nat} {W W' : World} {ds : List Deferred} (h : MarksOk base0 W ds) (hk : ∀ D, base0 ≤ D → W.heap[D]? = some (.deferred (some [])) → W'.heap[D]? = some (.deferred (some []))) : MarksOk base0 W' ds := by
  obtain ⟨Ds, h1, h2, h3⟩ := h
  exact ⟨Ds, h1, h2, fun D hD => ⟨(h3 D hD).1, hk D (h3 D hD).1 (h3 D hD).2⟩⟩
theorem MarksOk.cons {base0 D : Nat} {W : World} {ds : List Deferred} (h : MarksOk base0 W ds) (hD : base0 ≤ D) (hk : W.heap[D]? = some (.deferred (some []))) (hn : ∀ d ∈ ds, d.target ≠ .collected D) : MarksOk base0 W ({ target := .collected D, args := #[] } :: ds) := by
  obtain ⟨Ds, rfl, h2, h3⟩ := h
  refine ⟨D :: Ds, rfl, List.nodup_cons.2 ⟨fun hm => hn _ (List.mem_map.2 ⟨D, hm, rfl⟩) rfl, h2⟩, fun E hE => ?_⟩
  rcases List.mem_cons.1 hE with rfl | hE
  · exact ⟨hD, hk⟩
  · exact h3 E hE
theorem MarksOk.fresh {base0 D : Nat} {W : World} {ds : List Deferred} (h : MarksOk base0 W ds) (hD : W.heap.size ≤ D) : ∀ d ∈ ds, d.target ≠ .collected D := by
  obtain ⟨Ds, rfl, _, h3⟩ := h
  rintro d hd e
  obtain ⟨E, hE, rfl⟩ := List.mem_map.1 hd
  injection e with e
  subst e
  have := (Array.getElem?_eq_some_iff.1 (h3 E hE).2).1
  omega
/-- At the function's return the marks are taken, one by one. -/
theorem MarksOk.leaves {F : Fence} {n : Nat} {P : Program} {fn : Func} {tmps : Array Value} {R : Ending → World → Prop} {base0 : Nat} : ∀ (ds : List Deferred) (W : World), MarksOk base0 W ds →
    (∀ W', Below base0 W W' → (∀ k : Nat, W.heap[k]? = W'.heap[k]? ∨ W.heap[k]? = some (Obj.deferred (some []))) → LeavesInM F n P fn tmps R [] .returning W') → LeavesInM F n P fn tmps R ds .returning W
  | [], W, _, h => h W (Below.refl _ _) fun _ => .inl rfl
  | d :: ds, W, hm, h => by
    obtain ⟨Ds, e, hn, hk⟩ := hm
    cases Ds with
    | nil => cases e
    | cons D Ds =>
      injection e with e1 e2
      subst e1 e2
      obtain ⟨hn1, hn2⟩ := List.nodup_cons.1 hn
      have hD := hk D (by simp)
      refine ⟨by simp, .inl ⟨D, _, rfl, run_takeDeferred hD.2, ?_⟩⟩
      have hg := grownBy_putObj' W D (.deferred none)
      refine MarksOk.leaves _ _ ⟨Ds, rfl, hn2, fun E hE => ⟨(hk E (by simp [hE])).1, ?_⟩⟩ fun W' hb hs => h W' ?_ fun k => ?_
      · have hEk := (hk E (by simp [hE])).2
        exact (hg.block E (Array.getElem?_eq_some_iff.1 hEk).1 (fun e' => by injection e' with e'; subst e'; exact hn1 hE)).trans hEk
      · exact ((Below.refl base0 W).grown hg (by have := (Array.getElem?_eq_some_iff.1 hD.2).1; omega) (fun k e' => by injection e' with e'; omega)).trans hb
      · by_cases ek : k = D
        · subst ek; exact .inr hD.2
        · rcases hs k with h1 | h1
          · refine .inl ?_
            rw [← h1]
            exact (World.putObj_heap_other ek).symm
          · refine .inr ?_
            rwa [World.putObj_heap_other ek] at h1

theorem sliceNil0c (c : Nat) (W : World) : (binOp .eql 29 (.slice none 0 c) (.slice none 0 0)).run Try.prog W = .ok (.bool true) W := by kernel_rfl
set_option maxRecDepth 100000 in
/-- slices.Clone of ints that can be read. -/
theorem clone_read (w : World) (v : Value) (l : List Int) (hl : IntsV w w.heap.size v l) (hlim : l.length ≤ lim) :
    Calls Try.prog 38 #[v] w (fun e w' => ∃ u, e = .returned u ∧ OwnInts w' w.heap.size u l ∧ Below w.heap.size w w') := by
  have hq0 := sliceNil0c
  have hq1 := sliceNil1
  obtain ⟨i0, hi, hz0, hz1, hz2⟩ := info_parts int_info
  have hl0 : l.length ≤ 17592186044416 := by unfold lim at hlim; omega
  obtain ⟨A, c, rfl, hc, _, hp⟩ := hl
  cases A with
  | none =>
    have h0 : l = [] := by
      rcases Nat.eq_zero_or_pos l.length with h | h
      · exact List.eq_nil_of_length_eq_zero h
      · obtain ⟨_, _, e, _⟩ := hp h; cases e
    subst h0
    clear hp
    go_enter Try.func38, Try.ntmps38
    go_wp2_with fail
    go_ret
    exact ⟨_, rfl, OwnInts.nil _ _, Below.refl _ _⟩
  | some ad =>
    have hcells : ∀ (W : World), Below w.heap.size w W → ∀ j u, (l.map (Value.int .i64))[j]? = some u → W.cell? (ad.add j) = some u := fun W hW j u hu => by
      rw [List.getElem?_map] at hu
      cases hx : l[j]? with
      | none => rw [hx] at hu; cases hu
      | some x =>
        rw [hx] at hu; injection hu with hu; subst hu
        obtain ⟨b, off, e, hb, hq⟩ := hp (by have := (List.getElem?_eq_some_iff.1 hx).1; omega)
        injection e with e; subst e
        have := (hW.cell (p := ⟨b, off + j, none⟩) hb).trans (hq j x hx)
        cases j with
        | zero => simpa [Addr.add] using this
        | succ j => simpa [Addr.add] using this
    have HC := Lib.hid hcells
    clear hp hcells
    go_enter Try.func38, Try.ntmps38
    go_wp2_with (at_builtin; refine wpList_append_own_at _ rfl (.tmp 5) (.tmp 6) 29 rfl w.heap.size 3 i0 (.int .i64 0) 1 8 Try.underlying29 hi hz0 hz1 hz2 rfl (by decide) _ _ _ rfl (World.ownsRow_made w #[] 0 (Nat.le_refl _) (by unfold maxLen; omega) rfl) ad l.length c (l.map (Value.int .i64)) rfl (by simp) (HC.out _ ((Below.refl _ _).alloc (Nat.le_refl _) _)) (ints_oneCell .i64 l) (by unfold maxLen; omega) (by omega) (by simp) ?_; intro v' w1 hown' hgrow _ _)
    go_ret
    refine ⟨_, rfl, ?_, ((Below.refl _ _).alloc (Nat.le_refl _) _).grown hgrow (by simp) (fun k e => by have e : some w.heap.size = some k := e; injection e with e; omega)⟩
    have := hown'
    rw [Nat.zero_add, List.nil_append] at this
    exact this
end Go.Proofs.Ytkmfdiboekoioaa
