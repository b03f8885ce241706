/- Of what graph.Check asks: the facts of a graph that may be. No condition. -/
import Derived.Test.YtkmfdiboekoioaaGreatCLk17
set_option linter.unusedSimpArgs false
set_option linter.unusedVariables false
namespace Go.Proofs.YtkmfdiboekoioaaGreat
open Go.RowKit
noncomputable def absOf (g : GraphP) : List (List Int) := (List.range g.blocks.length).map (fun b => aboveTo g b g.blocks.length)
theorem absOf_get {g : GraphP} {b : Nat} (h : b < g.blocks.length) : (absOf g)[b]? = some (aboveTo g b g.blocks.length) := by simp [absOf, h]
theorem stands_ok {g : GraphP} {al : List (Int × Int)} (hl : al.length = g.nodes.length) (h0 : ∀ q ∈ al, 0 ≤ q.1 ∧ 0 ≤ q.2) {a : Int} (ha : 0 ≤ a ∧ a < (g.nodes.length : Int)) {c i : Nat} (h : standsB al (aboveTo g c g.blocks.length) c i a = true) : standsP g (alA al) a c i := by
  obtain ⟨k, rfl⟩ : ∃ k : Nat, a = (k : Int) := ⟨a.toNat, by omega⟩
  obtain ⟨q, hq⟩ := getL (l := al) (k := k) (by omega)
  obtain ⟨q0, q1⟩ := h0 q (List.mem_of_getElem? hq)
  have hA : alA al k = (q.1.toNat, q.2.toNat) := by unfold alA; rw [List.getD_eq_getElem?_getD, hq]; rfl
  unfold standsB at h
  rw [Int.toNat_natCast, List.getD_eq_getElem?_getD, hq, Option.getD_some] at h
  refine ⟨ha.1, ha.2, ?_⟩
  rw [Int.toNat_natCast, hA]
  by_cases e : q.1 = (c : Int)
  · rw [if_pos e] at h
    have := of_decide_eq_true h
    exact .inl ⟨by simp only; omega, by simp only; omega⟩
  · rw [if_neg e] at h
    obtain ⟨b, hb, e2, hv⟩ := mem_aboveTo.1 (of_decide_eq_true h)
    have e3 : q.1.toNat = b := by omega
    refine .inr ⟨by simp only; omega, ?_⟩
    simp only
    rw [e3]
    exact hv
theorem uses_ok {g : GraphP} {al : List (Int × Int)} (hl : al.length = g.nodes.length) (h0 : ∀ q ∈ al, 0 ≤ q.1 ∧ 0 ≤ q.2) {args : List Int} {st : Int} (ha : ∀ a ∈ args, 0 ≤ a ∧ a < (g.nodes.length : Int)) (hs : ∀ z ∈ slotsOf g st, z < (g.nodes.length : Int)) {b i : Nat}
    (h : usesB g al (aboveTo g b g.blocks.length) b i args st = true) : (∀ a ∈ args, standsP g (alA al) a b i) ∧ ∀ s ∈ slotsOf g st, 0 ≤ s → standsP g (alA al) s b i := by
  unfold usesB at h
  simp only [Bool.and_eq_true, Bool.not_eq_true', List.any_eq_false, Bool.or_eq_true, decide_eq_true_eq] at h
  obtain ⟨h1, h2⟩ := h
  refine ⟨fun a hm => ?_, fun s hm hs0 => ?_⟩
  · have := h1 a hm
    unfold missB at this
    rw [decide_eq_true (ha a hm).1] at this
    exact stands_ok hl h0 (ha a hm) (by simpa using this)
  · rcases h2 with h2 | h2
    · unfold slotsOf at hm
      rw [if_pos h2] at hm
      cases hm
    · have := h2 s hm
      unfold missB at this
      rw [decide_eq_true hs0] at this
      exact stands_ok hl h0 ⟨hs0, hs s hm⟩ (by simpa using this)
theorem gok_of {g : GraphP} {al : List (Int × Int)} (hpos : 0 < g.blocks.length) (hl : al.length = g.nodes.length) (h0 : ∀ q ∈ al, 0 ≤ q.1 ∧ 0 ≤ q.2) (hp : Places g (alA al))
    (hst : ∀ s ∈ g.states, ∀ z ∈ s.slots, z < (g.nodes.length : Int)) (he : ∀ x ∈ g.blocks, EndOk g x) (hah : ∀ x ∈ g.blocks, ∀ c ∈ x.ahead, 0 ≤ c ∧ c < (g.blocks.length : Int))
    (hn : ∀ (n : Nat) y, g.nodes[n]? = some y → ∀ x, g.blocks[(alA al n).1]? = some x → NodOk g al (absOf g) y (alA al n).1 (alA al n).2 x (aboveTo g (alA al n).1 g.blocks.length))
    (hf : ∀ (b : Nat) x, g.blocks[b]? = some x → usesB g al (aboveTo g b g.blocks.length) b x.nodes.length x.args x.state = true) : GOk g (alA al) := by
  refine ⟨hpos, hp, fun b x hx n hm => (he x (List.mem_of_getElem? hx)).2.1 n hm, fun n y hy ho x hx i a c ha hc => ?_, fun n y hy ho => ?_, fun b x hx => ?_⟩
  · obtain ⟨q1, q2, q3, q4⟩ := hn n y hy x hx
    obtain ⟨c0, c1⟩ := hah x (List.mem_of_getElem? hx) c (List.mem_of_getElem? hc)
    obtain ⟨z, hz⟩ := getL (l := g.blocks) (k := c.toNat) (by omega)
    refine ⟨z, hz, c0, stands_ok hl h0 (q1 a (List.mem_of_getElem? ha)) (q3 ho i a c z _ ha hc hz (absOf_get (by omega)))⟩
  · obtain ⟨x, hx, _⟩ := hp.has n (List.getElem?_eq_some_iff.1 hy).1
    obtain ⟨q1, q2, q3, q4⟩ := hn n y hy x hx
    exact uses_ok hl h0 q1 (slots_lt hst _) (q4 ho)
  · exact uses_ok hl h0 (he x (List.mem_of_getElem? hx)).1 (slots_lt hst _) (hf b x hx)
theorem wasP_mem {g : GraphP} {n : Int} {k : Nat} {c : Int} (h : c ∈ wasP g n k) : 0 ≤ c ∧ c < (k : Int) := by
  unfold wasP at h
  obtain ⟨b, hb, rfl⟩ := List.mem_map.1 h
  have := List.mem_range.1 (List.mem_filter.1 hb).1
  omega
theorem states_fine {N : Nat} {ds : List Int} {loc : Int} {l : List StateP} (h : true = !l.any (stateBadB N ds loc)) : ∀ s ∈ l, (∀ z ∈ s.slots, z < (N : Int)) ∧ 0 ≤ s.pc ∧ s.pc < (ds.length : Int) := by
  intro s hs
  have h1 : l.any (stateBadB N ds loc) = false := by simpa using h.symm
  rw [List.any_eq_false] at h1
  have h2 := h1 s hs
  unfold stateBadB at h2
  simp only [Bool.not_eq_true, Bool.or_eq_false_iff, Bool.not_eq_false', Bool.and_eq_true, decide_eq_true_eq, List.any_eq_false] at h2
  obtain ⟨⟨⟨⟨p0, p1⟩, _⟩, _⟩, h3⟩ := h2
  refine ⟨fun z hz => ?_, p0, p1⟩
  have := h3 z hz
  simp only [slotBadB, Bool.or_eq_true, decide_eq_true_eq, not_or, Bool.not_eq_true, Bool.or_eq_false_iff, decide_eq_false_iff_not] at this
  omega
theorem nodF_of {B : Nat} {p : List FnP} {g : GraphP} {al : List (Int × Int)} {fn : Nat} {f : FnP} (hl : al.length = g.nodes.length) (h0 : ∀ q ∈ al, 0 ≤ q.1 ∧ 0 ≤ q.2) (hp : Places g (alA al))
    (hst : ∀ s ∈ g.states, (∀ z ∈ s.slots, z < (g.nodes.length : Int)) ∧ 0 ≤ s.pc ∧ s.pc < (f.code.length : Int)) (hah : ∀ x ∈ g.blocks, ∀ c ∈ x.ahead, 0 ≤ c ∧ c < (g.blocks.length : Int)) (hop : ∀ y ∈ g.nodes, 0 ≤ y.op ∧ y.op ≤ 255)
    (hgf : g.fn = (fn : Int)) (hf : p[fn]? = some f) (hcode : ∀ i ∈ f.code, i.op = 26 → 1 ≤ i.a ∧ i.a < (p.length : Int)) (hs : g.nodes.length ≤ 5000 ∧ g.blocks.length ≤ 5000)
    {n : Nat} {y : NodeP} (hy : g.nodes[n]? = some y) {x : BlockP} (hx : g.blocks[(alA al n).1]? = some x) : NodF B p g al (absOf g) n y (alA al n).1 (alA al n).2 x (aboveTo g (alA al n).1 g.blocks.length) fn f := by
  have hn := (List.getElem?_eq_some_iff.1 hy).1
  obtain ⟨q, hq⟩ := getL (l := al) (k := n) (by omega)
  obtain ⟨q0, q1⟩ := h0 q (List.mem_of_getElem? hq)
  have hA : alA al n = (q.1.toNat, q.2.toNat) := by unfold alA; rw [List.getD_eq_getElem?_getD, hq]; rfl
  obtain ⟨x', hx', hi⟩ := hp.has n hn
  rw [hx] at hx'
  injection hx' with hx'
  subst hx'
  refine ⟨hy, ?_, hx, absOf_get (List.getElem?_eq_some_iff.1 hx).1, (List.getElem?_eq_some_iff.1 hi).1, hop y (List.mem_of_getElem? hy), fun z hz => ?_, hah x (List.mem_of_getElem? hx), by simp [absOf], hl, hst, hgf, hf, hcode, hs⟩
  · rw [hq, hA]
    simp only
    have e1 : ((q.1.toNat : Nat) : Int) = q.1 := by omega
    have e2 : ((q.2.toNat : Nat) : Int) = q.2 := by omega
    rw [e1, e2]
  · obtain ⟨j, hj⟩ := List.mem_iff_getElem?.1 hz
    obtain ⟨k, e, hk, _⟩ := hp.put _ x j z hx hj
    omega
theorem PairsV.far {w : World} {b0 n c : Nat} {l : List (Int × Int)} (h : PairsV w (.slice (some ⟨b0, 0, none⟩) n c) l) {a : Addr} (hb : b0 ≠ a.block) (u : Value) : PairsV (w.setCell a u) (.slice (some ⟨b0, 0, none⟩) n c) l := by
  obtain ⟨ba, c', e, h1, h2, h3, h4⟩ := h
  injection e with e1 e2 e3
  injection e1 with e1
  injection e1 with e1
  subst e1
  have hbk := (grown_setCell w a u).block b0 h3 (fun e => hb (by injection e))
  refine ⟨b0, c', by rw [e2, e3], h1, h2, Nat.lt_of_lt_of_le h3 (grown_setCell w a u).size, fun k q hq => ⟨(World.cell?_of_block hbk).trans (h4 k q hq).1, (World.cell?_of_block hbk).trans (h4 k q hq).2⟩⟩
/-- 'do all numbers hold?', where the function's yes says something. -/
theorem allNum_some (w : World) (n pf : Nat) (fs cs : Array Value) (I : World → Prop) (R : Nat → Prop) (hn : n ≤ 17592186044416) (hf : Enters pf) (hI : I w)
    (hp : ∀ (wr : World) (k : Nat), k < n → I wr → Calls Tryz.prog pf (fs.push (.int .i64 k) ++ cs) wr (fun e w' => ∃ t, e = .returned (.bool t) ∧ (t = true → R k) ∧ I w')) :
    Calls Tryz.prog 43 #[.int .i64 n, .func (.func pf) fs cs] w (fun e w' => ∃ t, e = .returned (.bool t) ∧ (t = true → ∀ k, k < n → R k) ∧ I w') := by
  have HI := Lib.hid hI; have HP := Lib.hid hp
  have hfr := hf
  unfold Enters at hfr
  clear hI hp
  go_enter Tryz.func43, Tryz.ntmps43
  go_wp2_with fail
  go_loopw [7] (fun i wr => ∃ k : Nat, k ≤ n ∧ i = .int .i64 k ∧ Hid (I wr) ∧ Hid (∀ j, j < k → R j)) (fun i _ => n - (intOf i).toNat)
  case atStart => exact ⟨0, Nat.zero_le _, rfl, HI, Lib.hid (fun j h => by omega)⟩
  case round =>
    obtain ⟨k, hk, rfl, HI2, HA⟩ := hrel
    by_cases hlt : k < n
    · have HC := Lib.hid (HP.out wr k hlt HI2.out)
      go_wp2_with ((with_reducible refine Calls.mono HC.out ?_); rintro e w2 ⟨t, rfl, ht, hi2⟩; have HI3 := Lib.hid hi2; have HT := Lib.hid ht; clear hi2 ht; cases t)
      · go_ret
        exact ⟨false, rfl, (fun h => by cases h), HI3.out⟩
      · go_roundw
        case rel => exact ⟨k + 1, by omega, by go_num, HI3, Lib.hid (fun j hj => by
          rcases Nat.lt_or_ge j k with h | h
          · exact HA.out j h
          · obtain rfl : j = k := by omega
            first | exact HT.out rfl | exact HT.out trivial | exact HT.out)⟩
        case measure => simp [intOf]; omega
    · go_wp2_with fail
      go_ret
      exact ⟨true, rfl, fun _ j hj => HA.out j (by omega), HI2.out⟩
end Go.Proofs.YtkmfdiboekoioaaGreat
