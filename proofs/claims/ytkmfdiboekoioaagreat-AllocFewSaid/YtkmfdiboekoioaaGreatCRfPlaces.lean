/- The walk of the places of a graph, as the reference 16 lists them. Conditions: a small graph that lies in memory. -/
import Derived.Test.YtkmfdiboekoioaaGreatCRfPl1
import Derived.Test.YtkmfdiboekoioaaGreatCRfBk
import Derived.Test.YtkmfdiboekoioaaGreatCDo
set_option linter.unusedSimpArgs false
set_option linter.unusedVariables false
namespace Go.Proofs.YtkmfdiboekoioaaGreat
open Go.RowKit
/-- What the places are: if they are, each node stands in just one. -/
def Places16 (g : GraphP) (w : World) (e : Ending) (w' : World) : Prop := ∃ (t : Bool) (v : Value), e = .returned (.tuple #[v, .bool t]) ∧ (t = true → ∃ P, PlacesV w' w'.heap.size v P ∧ PlOk2 g P) ∧ Below w.heap.size w w'
theorem Places16.no {g : GraphP} {w w' : World} {v : Value} (h : Below w.heap.size w w') : Places16 g w (.returned (.tuple #[v, .bool false])) w' := ⟨false, v, rfl, (fun q => by cases q), h⟩
theorem PlM.res {w : World} {xv : GVals} {g : GraphP} {al : List (Int × Int)} {W : World} (h : PlM w xv g al W) (hl : al.length = g.nodes.length) (hs : g.nodes.length ≤ 5000) (hp : PlOk2 g (natP al) ∧ ∀ q ∈ al, 0 ≤ q.1 ∧ 0 ≤ q.2) :
  Places16 g w (.returned (.tuple #[.slice (some ⟨w.heap.size + 1, 0, none⟩) g.nodes.length g.nodes.length, .bool true])) W := by
 refine ⟨true, _, rfl, fun _ => ⟨natP al, ?_, hp.1⟩, h.low⟩
 refine ⟨_, g.nodes.length, by rw [show (natP al).length = g.nodes.length from by simp [natP, hl]], by simp [natP, hl], by simp [natP, hl]; unfold lim; omega, fun _ => ⟨w.heap.size + 1, 0, rfl, h.ar.lt, fun j x hx => ?_⟩⟩
 unfold natP at hx
 rw [List.getElem?_map] at hx
 cases hq : al[j]? with
 | none => rw [hq] at hx; cases hx
 | some q =>
  rw [hq] at hx
  injection hx with hx
  subst hx
  obtain ⟨q1, q2⟩ := hp.2 q (List.mem_of_getElem? hq)
  obtain ⟨h1, h2⟩ := h.at_ hq
  refine ⟨?_, ?_⟩
  ·rw [Nat.zero_add, h1, Int.toNat_of_nonneg q1]
  ·rw [Nat.zero_add, h2, Int.toNat_of_nonneg q2]
set_option maxRecDepth 100000 in
set_option maxHeartbeats 16000000 in
theorem places16_any (w : World) (xv : GVals) (g : GraphP) (hs : Small g) (hg : GraphV w w.heap.size xv g) : Calls Tryz.prog 20 #[gval g xv] w (Places16 g w) := by
 have HG := Lib.hid hg
 obtain ⟨vn, vb, vs⟩ := xv
 obtain ⟨⟨An, cn, en, _⟩, ⟨Ab, cb, eb, _, _, hqb⟩, ⟨As, cs, es, _⟩⟩ := hg
 simp only at en eb es
 subst en eb es
 have HQB := Lib.hid hqb
 obtain ⟨l1, l2, l3⟩ := hs.lens
 obtain ⟨i0, hi, hz0, hz1, hz2⟩ := info_parts place_info
 clear hqb
 have ee : gval g ⟨.slice An g.nodes.length cn, .slice Ab g.blocks.length cb, .slice As g.states.length cs⟩ = .agg #[.int .i64 g.fn, .int .i64 g.pc, .int .i64 g.slots, .slice An g.nodes.length cn, .slice Ab g.blocks.length cb, .slice As g.states.length cs] := rfl
 have E0 := Lib.hid ee; clear ee
 rw [E0.out]
 obtain ⟨w1, hw1⟩ : ∃ w1, w1 = (w.alloc (.cells #[.int .i64 g.fn, .int .i64 g.pc, .int .i64 g.slots, .slice An g.nodes.length cn, .slice Ab g.blocks.length cb, .slice As g.states.length cs] 28)).alloc (.cells (madeCells #[.int .i64 0, .int .i64 0] (g.nodes.length * 2)) 64) := ⟨_, rfl⟩
 have HM1 : Hid (PlM w ⟨.slice An g.nodes.length cn, .slice Ab g.blocks.length cb, .slice As g.states.length cs⟩ g (firstTo g.nodes.length 0) w1) := Lib.hid (by
  rw [hw1, made_pairs, ← firstTo_zero]
  exact ⟨(Blk.new _ _ _).alloc _, by simpa using Blk.new (w.alloc _) _ _, ((Below.refl _ _).alloc (Nat.le_refl _) _).alloc (by simp) _⟩)
 have hmk := fun (W : World) => run_makeSlice (P := Tryz.prog) W 58 64 i0 (.agg #[.int .i64 0, .int .i64 0]) Tryz.underlying58 hi hz0 .i64 .i64 (g.nodes.length : Int) (g.nodes.length : Int) (by omega) (Int.le_refl _) (by rw [hz1]; simp; omega) (by rw [hz2]; omega) (by omega)
 simp only [hz1, Int.toNat_natCast, Value.cells] at hmk
 go_enter Tryz.func20, Tryz.ntmps20
 go_upto_region 2 with fail
 rw [← hw1]
 clear hw1 hmk
 go_wp2_with fail
 go_loopw [5] (fun t wr => ∃ k : Nat, k ≤ g.nodes.length ∧ t = .int .i64 k ∧ Hid (PlM w ⟨.slice An g.nodes.length cn, .slice Ab g.blocks.length cb, .slice As g.states.length cs⟩ g (firstTo g.nodes.length k) wr)) (fun t _ => g.nodes.length - (intOf t).toNat)
 case atStart => exact ⟨0, Nat.zero_le _, rfl, HM1⟩
 case round =>
  obtain ⟨k, hk, rfl, HM⟩ := hrel
  by_cases hlt : k < g.nodes.length
  ·have hq : (firstTo g.nodes.length k)[k]? = some (0, 0) := by simp [firstTo, hlt]
   obtain ⟨c0, _⟩ := HM.out.at_ hq
   have fr := HM.out.fr (k * 2)
   have HQ := Lib.hid hq
   clear hq
   go_wp2_with fail
   go_roundw
   case rel => exact ⟨k + 1, by omega, by go_num, Lib.hid (by have := HM.out.fst HQ.out (-1); rw [firstTo_set hlt] at this; exact this)⟩
   case measure => simp [intOf]; omega
  ·obtain rfl : k = g.nodes.length := by omega
   go_wp2_with fail
   clear hlt hk
   go_loopw [6] (fun t wr => ∃ (b : Nat) (al : List (Int × Int)), b ≤ g.blocks.length ∧ t = .int .i64 b ∧ al.length = g.nodes.length ∧ Hid (PlM w ⟨.slice An g.nodes.length cn, .slice Ab g.blocks.length cb, .slice As g.states.length cs⟩ g al wr) ∧ Hid (PlI g b 0 al)) (fun t _ => g.blocks.length - (intOf t).toNat)
   case atStart => exact ⟨0, _, Nat.zero_le _, rfl, firstTo_len _ _, HM, Lib.hid (PlI.first g _)⟩
   case round =>
    obtain ⟨b, al, hb, rfl, hal, HMb, HPb⟩ := hrel
    have HAL := Lib.hid hal
    clear hal
    obtain ⟨q3, q4, ql, ql0⟩ := HMb.out.cells
    by_cases hlb : b < g.blocks.length
    ·obtain ⟨x, hx⟩ := rget hlb
     have hxl := (hs.block hx).1
     obtain ⟨bb, ob, rfl, hbb, hqb⟩ := HQB.out (by omega)
     have HBk := Lib.hid (hqb b x hx)
     have HX := Lib.hid hx
     clear hqb hx
     go_wp2_with fail
     go_loopw [7] (fun t wr => ∃ (k : Nat) (al : List (Int × Int)), k ≤ x.nodes.length ∧ t = .int .i64 k ∧ Hid (al.length = g.nodes.length) ∧ Hid (PlM w ⟨.slice An g.nodes.length cn, .slice (some ⟨bb, ob, none⟩) g.blocks.length cb, .slice As g.states.length cs⟩ g al wr) ∧ Hid (PlI g b k al)) (fun t _ => x.nodes.length - (intOf t).toNat)
     case atStart => exact ⟨0, al, Nat.zero_le _, rfl, HAL, HMb, HPb⟩
     case round =>
      clear q3 q4 ql ql0
      obtain ⟨k, al2, hk, rfl, HAL2, HM2, HP2⟩ := hrel
      obtain ⟨q3, q4, ql, ql0⟩ := HM2.out.cells
      obtain ⟨⟨v0, f0, i0'⟩, _⟩ := HBk.out.keep (Same.of_below HM2.out.low) hbb
      have HI0 := Lib.hid i0'
      obtain ⟨A0, c0, rfl, _⟩ := i0'
      by_cases hlk : k < x.nodes.length
      ·obtain ⟨B7, o7, rfl, _, hp7⟩ := HI0.out.cells hlk
       obtain ⟨n, hn⟩ := rget hlk
       have n0 := hp7 k n hn
       have HN := Lib.hid hn
       clear hp7 hn
       by_cases hr : 0 ≤ n ∧ n < (g.nodes.length : Int)
       ·obtain ⟨m, rfl⟩ : ∃ m : Nat, n = (m : Int) := ⟨n.toNat, by omega⟩
        have hml : m < g.nodes.length := by omega
        obtain ⟨q, hq⟩ := rget (l := al2) (k := m) (by have := HAL2.out; omega)
        obtain ⟨c1, c2⟩ := HM2.out.at_ hq
        have fr1 := HM2.out.fr (m * 2)
        have fr2 := HM2.out.fr (m * 2 + 1)
        have HQ := Lib.hid hq
        clear hq hr
        rcases d : decide (0 ≤ q.1) with _ | _
        ·have HPn : Hid (PlI g b (k + 1) (al2.set m ((b : Int), (k : Int)))) := Lib.hid (HP2.out.put HX.out HN.out HQ.out (by have := of_decide_eq_false d; omega))
         have HMn : Hid (PlM w ⟨.slice An g.nodes.length cn, .slice (some ⟨bb, ob, none⟩) g.blocks.length cb, .slice As g.states.length cs⟩ g (al2.set m ((b : Int), (k : Int))) _) := Lib.hid (HM2.out.put (k := m) (by have := HAL2.out; omega) (b : Int) (k : Int))
         have HLn : Hid ((al2.set m ((b : Int), (k : Int))).length = g.nodes.length) := Lib.hid (by rw [List.length_set]; exact HAL2.out)
         have nd : decide (0 ≤ q.1) = false := d
         go_wp2_with fail
         go_roundw
         case rel => exact ⟨k + 1, _, by omega, by go_num, HLn, HMn, HPn⟩
         case measure => simp [intOf]; omega
        ·go_wp2_with fail
         all_goals (go_ret2; exact Places16.no HM2.out.low)
       ·have HR := Lib.hid (show (0 ≤ n ∧ n < (g.nodes.length : Int)) → False from hr)
        clear hr
        rcases d1 : decide (n < 0) with _ | _
        ·have d2 : decide ((g.nodes.length : Int) ≤ n) = true := decide_eq_true (by
          have := of_decide_eq_false d1
          exact Classical.byContradiction fun h => HR.out ⟨by omega, by omega⟩)
         go_wp2_with fail
         all_goals (go_ret2; exact Places16.no HM2.out.low)
        ·go_wp2_with fail
         all_goals (go_ret2; exact Places16.no HM2.out.low)
      ·have HPn := Lib.hid (HP2.out.next HX.out (by omega))
       go_wp2_with fail
       go_roundw
       case rel => exact ⟨b + 1, al2, by omega, by go_num, HAL2.out, HM2, HPn⟩
       case measure => simp [intOf]; omega
    ·go_wp2_with fail
     go_loopw [9] (fun t w3 => ∃ k : Nat, k ≤ g.nodes.length ∧ t = .int .i64 k ∧ w3 = wr ∧ Hid (∀ (m : Nat) q, m < k → al[m]? = some q → 0 ≤ q.1)) (fun t _ => g.nodes.length - (intOf t).toNat)
     case atStart => exact ⟨0, Nat.zero_le _, rfl, by trivial, Lib.hid (fun m q h => by omega)⟩
     case round =>
      obtain ⟨k, hk, rfl, hw, HG3⟩ := hrel
      subst hw
      by_cases hlt : k < g.nodes.length
      ·obtain ⟨q, hq⟩ := rget (l := al) (k := k) (by have := HAL.out; omega)
       obtain ⟨c1, c2⟩ := HMb.out.at_ hq
       have HQ := Lib.hid hq
       clear hq
       rcases d : decide (q.1 < 0) with _ | _
       ·have D := Lib.hid d
        go_wp2_with fail
        go_roundw
        case rel => exact ⟨k + 1, by omega, by go_num, by trivial, Lib.hid (fun m q' hm hq' => by
         rcases Nat.lt_or_ge m k with h | h
         ·exact HG3.out m q' h hq'
         ·obtain rfl : m = k := by omega
          rw [HQ.out] at hq'; injection hq' with hq'; subst hq'
          have := of_decide_eq_false D.out
          omega)⟩
        case measure => simp [intOf]; omega
       ·go_wp2_with fail
        go_ret2
        exact Places16.no HMb.out.low
      ·have hres := HPb.out.all (by omega) HAL.out (fun q hq => by
        obtain ⟨m, hm⟩ := List.mem_iff_getElem?.1 hq
        have hml := (List.getElem?_eq_some_iff.1 hm).1
        exact HG3.out m q (by have := HAL.out; omega) hm)
       have HRes := Lib.hid hres
       clear hres
       go_wp2_with fail
       go_ret2
       exact HMb.out.res HAL.out l1 HRes.out
end Go.Proofs.YtkmfdiboekoioaaGreat

/- The order in which alloc.Do takes nodes: each behind all that stand ahead of it. Conditions: the facts of a graph that may be. -/
namespace Go.Proofs.YtkmfdiboekoioaaGreat
open Go.RowKit
/-- Each number stands behind all that are ahead of it. -/
def OrdOk (g : GraphP) (A : Nat → Nat × Nat) (l : List Int) : Prop := ∀ pre y suf, l = pre ++ y :: suf → ∀ z k : Nat, y = (k : Int) → z < g.nodes.length → k < g.nodes.length → Before g A z k → (z : Int) ∈ pre
theorem OrdOk.app {g : GraphP} {A : Nat → Nat × Nat} {l m : List Int} (h : OrdOk g A l) (hm : ∀ pre y suf, m = pre ++ y :: suf → ∀ z k : Nat, y = (k : Int) → z < g.nodes.length → k < g.nodes.length → Before g A z k → (z : Int) ∈ l ++ pre) : OrdOk g A (l ++ m) := by
 intro pre y suf e z k hy hz hk hb
 rcases List.append_eq_append_iff.1 e with ⟨r, h1, h2⟩ | ⟨r, h1, h2⟩
 ·rw [h1]
  exact hm r y suf h2 z k hy hz hk hb
 ·cases r with
  | nil =>
   rw [List.append_nil] at h1
   rw [List.nil_append] at h2
   have := hm [] y suf h2.symm z k hy hz hk hb
   rw [List.append_nil] at this
   rw [← h1]; exact this
  | cons c r =>
   rw [List.cons_append] at h2
   injection h2 with h3 h4
   subst h3
   exact h pre y r h1 z k hy hz hk hb
theorem mem_abOf {g : GraphP} {b : Nat} {x : Int} : x ∈ abOf g b ↔ ∃ a : Nat, a < g.blocks.length ∧ x = a ∧ abv g a b := mem_aboveTo
theorem filter_strict {l : List Nat} {p q : Nat → Bool} (h : ∀ a ∈ l, p a = true → q a = true) {c : Nat} (hc : c ∈ l) (h1 : p c = false) (h2 : q c = true) : (l.filter p).length < (l.filter q).length := by
 induction l with
 | nil => cases hc
 | cons a l ih =>
  have hle : ∀ m : List Nat, (∀ a ∈ m, p a = true → q a = true) → (m.filter p).length ≤ (m.filter q).length := fun m => by
   induction m with
   | nil => simp
   | cons a m ih =>
    intro hm
    have := ih fun a ha => hm a (by simp [ha])
    by_cases hp : p a = true
    ·simp [hp, hm a (by simp) hp]; omega
    ·simp only [List.filter_cons, hp]
     split
     ·simp_all
     ·split <;> simp <;> omega
  rcases List.mem_cons.1 hc with rfl | hc
  ·have := hle l fun a ha => h a (by simp [ha])
   simp [h1, h2]; omega
  ·have := ih (fun a ha => h a (by simp [ha])) hc
   by_cases hp : p a = true
   ·simp [hp, h a (by simp) hp]; omega
   ·simp only [List.filter_cons, hp]
    split
    ·simp_all
    ·split <;> simp <;> omega
open Classical in
theorem ab_lt {g : GraphP} (hr : AllReach g) {a b : Nat} (ha : a < g.blocks.length) (hb : b < g.blocks.length) (hne : a ≠ b) (h : abv g a b) : (abOf g a).length < (abOf g b).length := by
 unfold abOf aboveTo
 rw [List.length_map, List.length_map]
 refine filter_strict (fun c _ hc => ?_) (c := b) (List.mem_range.2 hb) ?_ ?_
 ·rw [decide_eq_true_eq] at hc ⊢
  exact abv_trans (hr a ha) hc h
 ·rw [decide_eq_false_iff_not]
  exact fun hba => abv_anti (hr a ha) (hr b hb) hne h hba
 ·rw [decide_eq_true_eq]; exact .inr (.inl rfl)
/-- What holds while the order is made: blocks seen with few above are done. -/
structure OInv (g : GraphP) (A : Nat → Nat × Nat) (m : Nat) (s : OSt) : Prop where
 done : ∀ c : Nat, c < g.blocks.length → s.seen (c : Int) = true → (abOf g c).length < m → ∀ n ∈ ordNodes g c, n ∈ s.out
 ord : OrdOk g A s.out
theorem OInv.less {g : GraphP} {A : Nat → Nat × Nat} {m m' : Nat} {s : OSt} (h : OInv g A m s) (hm : m' ≤ m) : OInv g A m' s := ⟨fun c hc hs hl => h.done c hc hs (by omega), h.ord⟩
theorem ord_nodes {g : GraphP} {A : Nat → Nat × Nat} (hp : Places g A) {z : Nat} (hz : z < g.nodes.length) : (z : Int) ∈ ordNodes g (A z).1 := by
 obtain ⟨x, hx, hi⟩ := hp.has z hz
 unfold ordNodes
 rw [hx]
 exact List.mem_of_getElem? hi
theorem ordB_inv {g : GraphP} {A : Nat → Nat × Nat} (hp : Places g A) (hr : AllReach g) : ∀ (f : Nat) (s : OSt) (b m : Nat), (abOf g b).length < f → (abOf g b).length < m → b < g.blocks.length → OInv g A m s →
  OInv g A m (ordB g (abOf g) f s b) ∧ (∀ n ∈ ordNodes g b, n ∈ (ordB g (abOf g) f s b).out) ∧ (∀ n ∈ s.out, n ∈ (ordB g (abOf g) f s b).out) ∧ (∀ c : Nat, (ordB g (abOf g) f s b).seen (c : Int) = true → s.seen (c : Int) = true ∨ (abOf g c).length ≤ (abOf g b).length)
 | 0, _, _, _, h, _, _, _ => by omega
 | f + 1, s, b, m, hf, hm, hb, hi => by
  cases hsb : s.seen (b : Int) with
  | true =>
   rw [ordB_seen hsb]
   exact ⟨hi, hi.done b hb hsb hm, fun _ h => h, fun _ h => .inl h⟩
  | false =>
   have fold : ∀ (l : List Int) (t : OSt), (∀ a ∈ l, 0 ≤ a ∧ a < (g.blocks.length : Int)) → OInv g A (abOf g b).length t →
     OInv g A (abOf g b).length (l.foldl (ordStep (abOf g) (ordB g (abOf g) f) b) t) ∧ (∀ a ∈ l, (abOf g a.toNat).length < (abOf g b).length → ∀ n ∈ ordNodes g a.toNat, n ∈ (l.foldl (ordStep (abOf g) (ordB g (abOf g) f) b) t).out) ∧
     (∀ n ∈ t.out, n ∈ (l.foldl (ordStep (abOf g) (ordB g (abOf g) f) b) t).out) ∧ (∀ c : Nat, (l.foldl (ordStep (abOf g) (ordB g (abOf g) f) b) t).seen (c : Int) = true → t.seen (c : Int) = true ∨ (abOf g c).length < (abOf g b).length) := fun l => by
    induction l with
    | nil => exact fun t _ h => ⟨h, (fun a ha => by cases ha), fun _ h => h, fun _ h => .inl h⟩
    | cons a l ih =>
     intro t hl ht
     obtain ⟨a0, a1⟩ := hl a (by simp)
     rw [List.foldl_cons]
     unfold ordStep
     split
     ·rename_i hlt
      obtain ⟨i1, i2, i3, i4⟩ := ordB_inv hp hr f t a.toNat (abOf g b).length (by omega) hlt (by omega) ht
      obtain ⟨j1, j2, j3, j4⟩ := ih (ordB g (abOf g) f t a.toNat) (fun a ha => hl a (by simp [ha])) i1
      refine ⟨j1, fun a' ha' hlt' n hn => ?_, fun n hn => j3 n (i3 n hn), fun c hc => ?_⟩
      ·rcases List.mem_cons.1 ha' with rfl | ha'
       ·exact j3 n (i2 n hn)
       ·exact j2 a' ha' hlt' n hn
      ·rcases j4 c hc with h | h
       ·rcases i4 c h with h | h
        ·exact .inl h
        ·exact .inr (by omega)
       ·exact .inr h
     ·rename_i hlt
      obtain ⟨j1, j2, j3, j4⟩ := ih t (fun a ha => hl a (by simp [ha])) ht
      refine ⟨j1, fun a' ha' hlt' n hn => ?_, j3, j4⟩
      rcases List.mem_cons.1 ha' with rfl | ha'
      ·exact absurd hlt' hlt
      ·exact j2 a' ha' hlt' n hn
   have h0 : OInv g A (abOf g b).length ⟨fun z => s.seen z || z == (b : Int), s.out⟩ := ⟨fun c hc hs hl => by
    simp only [Bool.or_eq_true, beq_iff_eq] at hs
    rcases hs with hs | hs
    ·exact hi.done c hc hs (by omega)
    ·obtain rfl : c = b := by omega
     omega, hi.ord⟩
   obtain ⟨j1, j2, j3, j4⟩ := fold (abOf g b) _ (fun a ha => by
    obtain ⟨c, hc, rfl, _⟩ := mem_abOf.1 ha
    omega) h0
   unfold ordB
   rw [if_neg (by rw [hsb]; simp)]
   obtain ⟨x, hx⟩ := getE hb
   have hn : ordNodes g b = x.nodes := by unfold ordNodes; rw [hx]
   have above : ∀ z : Nat, z < g.nodes.length → (A z).1 ≠ b → abv g (A z).1 b → (z : Int) ∈ ((abOf g b).foldl (ordStep (abOf g) (ordB g (abOf g) f) b) ⟨fun z => s.seen z || z == (b : Int), s.out⟩).out := fun z hz hne ha => by
    have hzb := hp.blk hz
    have h2 := j2 ((A z).1 : Int) (mem_abOf.2 ⟨_, hzb, rfl, ha⟩) (by rw [Int.toNat_natCast]; exact ab_lt hr hzb hb hne ha) (z : Int)
    rw [Int.toNat_natCast] at h2
    exact h2 (ord_nodes hp hz)
   refine ⟨⟨fun c hc hs hl n hcn => ?_, j1.ord.app fun pre y suf e z k hy hz hk hbe => ?_⟩, fun n hn' => List.mem_append_right _ hn', fun n hn' => List.mem_append_left _ (j3 n hn'), fun c hc => ?_⟩
   ·rcases j4 c hs with h | h
    ·simp only [Bool.or_eq_true, beq_iff_eq] at h
     rcases h with h | h
     ·exact List.mem_append_left _ (j3 n (hi.done c hc h hl n hcn))
     ·obtain rfl : c = b := by omega
      exact List.mem_append_right _ hcn
    ·exact List.mem_append_left _ (j1.done c hc hs h n hcn)
   ·rw [hn] at e
    have hj : x.nodes[pre.length]? = some y := by rw [e]; simp
    rw [hy] at hj
    have hA := hp.at_ hk hx hj
    rcases hbe with ⟨e1, e2⟩ | ⟨e1, e2⟩
    ·rw [hA] at e1 e2
     simp only at e1 e2
     refine List.mem_append_right _ ?_
     obtain ⟨x', hx', hi'⟩ := hp.has z hz
     rw [e1, hx] at hx'; injection hx' with hx'; subst hx'
     rw [e, List.getElem?_append_left e2] at hi'
     exact List.mem_of_getElem? hi'
    ·rw [hA] at e1 e2
     exact List.mem_append_left _ (above z hz e1 e2)
   ·rcases j4 c hc with h | h
    ·simp only [Bool.or_eq_true, beq_iff_eq] at h
     rcases h with h | h
     ·exact .inl h
     ·obtain rfl : c = b := by omega
      exact .inr (Nat.le_refl _)
    ·exact .inr (by omega)
theorem ordAll_inv {g : GraphP} {A : Nat → Nat × Nat} (hp : Places g A) (hr : AllReach g) : ∀ k, k ≤ g.blocks.length → OInv g A (g.blocks.length + 1) (ordAll g k) ∧ ∀ b : Nat, b < k → ∀ n ∈ ordNodes g b, n ∈ (ordAll g k).out
 | 0, _ => ⟨⟨fun c _ hs => by simp [ordAll, ISet.empty] at hs, fun pre y suf e => by simp [ordAll] at e⟩, fun b h => by omega⟩
 | k + 1, hk => by
  obtain ⟨h1, h2⟩ := ordAll_inv hp hr k (by omega)
  have hl := abOf_len g k
  obtain ⟨i1, i2, i3, _⟩ := ordB_inv hp hr (g.blocks.length + 1) (ordAll g k) k (g.blocks.length + 1) (by omega) (by omega) (by omega) h1
  rw [ordAll_step]
  refine ⟨i1, fun b hb n hn => ?_⟩
  rcases Nat.lt_or_ge b k with q | q
  ·exact i3 n (h2 b q n hn)
  ·obtain rfl : b = k := by omega
   exact i2 n hn
theorem orderOf_ok {g : GraphP} {A : Nat → Nat × Nat} (hp : Places g A) (hr : AllReach g) : OrdOk g A (orderOf g) := by
 obtain ⟨h1, h2⟩ := ordAll_inv hp hr g.blocks.length (Nat.le_refl _)
 refine h1.ord.app fun pre y suf e z k hy hz hk hb => List.mem_append_left _ ?_
 exact h2 (A z).1 (hp.blk hz) _ (ord_nodes hp hz)
end Go.Proofs.YtkmfdiboekoioaaGreat
