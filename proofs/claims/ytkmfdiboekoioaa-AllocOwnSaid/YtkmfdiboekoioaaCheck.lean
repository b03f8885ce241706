/- The walk of alloc.Check. Conditions: a graph that is small. -/
import Derived.Test.YtkmfdiboekoioaaMeets
import Derived.Deep.QuietTactic
import Derived.BigQuiet
namespace Go.Proofs.Ytkmfdiboekoioaa
open Go.RowKit

theorem neg_any (w : World) (x : Int) (t : Bool) (ht : t = true ↔ x < 0) : Calls Try.prog 11 #[.int .i64 x] w (fun e w' => e = .returned (.bool t) ∧ w' = w) := by
  by_cases h : x < 0
  · obtain rfl : t = true := ht.2 h
    clear ht
    go_enter Try.func11, Try.ntmps11
    go_wp2_with fail
    go_ret
    exact ⟨by simp [h], rfl⟩
  · obtain rfl : t = false := Bool.eq_false_iff.2 fun e => h (ht.1 e)
    clear ht
    go_enter Try.func11, Try.ntmps11
    go_wp2_with fail
    go_ret
    exact ⟨by simp, rfl⟩

theorem indexNeg_any (w : World) (v : Value) (l : List Int) (hl : IntsV w w.heap.size v l) :
    Calls Try.prog 18 #[v, .func (.func 11) #[] #[]] w (fun e w' => (∃ k : Int, e = .returned (.int .i64 k) ∧ (0 ≤ k ↔ ∃ x ∈ l, x < 0) ∧ -1 ≤ k) ∧ w' = w) := by
  obtain ⟨A, c, rfl, _hc, hlc, hl⟩ := hl
  have hlim : l.length ≤ 17592186044416 := by unfold lim at hlc; omega
  have HW := Lib.hid hl; clear hl hlc
  go_enter Try.func18, Try.ntmps18
  go_wp2_with fail
  go_loopw [8] (fun i wr => ∃ k : Nat, k ≤ l.length ∧ i = .int .i64 k ∧ wr = w ∧ ∀ x ∈ l.take k, 0 ≤ x) (fun i _ => l.length - (intOf i).toNat)
  case atStart => exact ⟨0, Nat.zero_le _, rfl, rfl, by simp⟩
  case round =>
    obtain ⟨k, hk, rfl, rfl, hno⟩ := hrel
    have HNo := Lib.hid hno; clear hno
    by_cases hlt : k < l.length
    · obtain ⟨b, off, rfl, hbB, hp⟩ := HW.out (by omega)
      obtain ⟨y, hy⟩ := getE hlt
      have f0 := hp k y hy
      have HY := Lib.hid hy
      clear hp HW hy
      by_cases hxy : y < 0
      · have HXY := Lib.hid hxy; clear hxy
        go_wp2_with (go_at_call 11; refine (neg_any _ y true ⟨fun _ => HXY.out, fun _ => rfl⟩).mono ?_; rintro e w' ⟨rfl, hw'⟩; have hw2 := hw'.symm; subst hw2)
        go_ret
        exact ⟨⟨k, rfl, ⟨fun _ => ⟨y, List.mem_of_getElem? HY.out, HXY.out⟩, fun _ => by omega⟩, by omega⟩, rfl⟩
      · have HXY := Lib.hid (Int.not_lt.1 hxy); clear hxy
        go_wp2_with (go_at_call 11; refine (neg_any _ y false ⟨(fun h => by cases h), fun h => absurd h (Int.not_lt.2 HXY.out)⟩).mono ?_; rintro e w' ⟨rfl, hw'⟩; have hw2 := hw'.symm; subst hw2)
        go_roundw
        case rel => exact ⟨k + 1, by omega, by go_num, (by first | rfl | trivial), fun x hx => by
          rw [List.take_add_one, HY.out] at hx
          rcases List.mem_append.1 hx with hx | hx
          · exact HNo.out x hx
          · simp only [Option.toList_some, List.mem_singleton] at hx; subst hx; exact HXY.out⟩
        case measure => simp [intOf]; omega
    · go_wp2_with fail
      go_ret
      refine ⟨⟨-1, rfl, ⟨fun h => by omega, fun ⟨x, hx, h⟩ => ?_⟩, by omega⟩, rfl⟩
      exact absurd h (Int.not_lt.2 <| HNo.out x (by rw [List.take_of_length_le (by omega)]; exact hx))

theorem containsNeg_any (w : World) (v : Value) (l : List Int) (hl : IntsV w w.heap.size v l) (t : Bool) (ht : t = true ↔ ∃ x ∈ l, x < 0) :
    Calls Try.prog 10 #[v, .func (.func 11) #[] #[]] w (fun e w' => e = .returned (.bool t) ∧ w' = w) := by
  obtain ⟨A, c, rfl, _hc, hlc, _⟩ := id hl
  have HL := Lib.hid hl; clear hl hlc
  by_cases hx : ∃ x ∈ l, x < 0
  · obtain rfl : t = true := ht.2 hx
    have HX := Lib.hid hx; clear hx ht
    go_enter Try.func10, Try.ntmps10
    go_wp2_with (first | (go_at_call 18; refine (indexNeg_any w _ l HL.out).mono ?_; rintro e w' ⟨⟨k, rfl, hk, h1⟩, rfl⟩; have hk0 : 0 ≤ k := hk.2 HX.out; clear hk) | fail)
    go_ret
    exact ⟨by simp [hk0], rfl⟩
  · obtain rfl : t = false := Bool.eq_false_iff.2 fun h => hx (ht.1 h)
    have HX := Lib.hid hx; clear hx ht
    go_enter Try.func10, Try.ntmps10
    go_wp2_with (first | (go_at_call 18; refine (indexNeg_any w _ l HL.out).mono ?_; rintro e w' ⟨⟨k, rfl, hk, h1⟩, rfl⟩; obtain rfl : k = -1 := (by have : ¬ 0 ≤ k := fun h => HX.out (hk.1 h); omega); clear hk h1) | fail)
    go_ret
    exact ⟨rfl, rfl⟩

/-- No two that meet have one register. -/
def Apart (R : Meets) (N : Nat) (rs : List Int) : Prop := ∀ n z : Nat, n < N → R (n : Int) (z : Int) = true → z ≠ n → rs.getD z 0 ≠ rs.getD n 0
def RegsOk (N : Nat) (rs : List Int) : Prop := rs.length = N ∧ ∀ r ∈ rs, 0 ≤ r
def CheckIs (g : GraphP) (rs : List Int) (w : World) (e : Ending) (w' : World) : Prop :=
  ∃ b : Bool, e = .returned (.bool b) ∧ Below w.heap.size w w' ∧ ((b = false ∧ ¬ RegsOk g.nodes.length rs) ∨ (RegsOk g.nodes.length rs ∧ ∃ I O, LiveIs g I O ∧ (b = true ↔ Apart (meetAll g I O) g.nodes.length rs)))
def ApartTo (R : Meets) (k : Nat) (rs : List Int) : Prop := ∀ n z : Nat, n < k → R (n : Int) (z : Int) = true → z ≠ n → rs.getD z 0 ≠ rs.getD n 0

theorem MRow.grown {w w' : World} {bo it : Nat} {ro : List Nat} {R : Meets} (h : MRow w bo ro R) (hg : w.grownBy w' (some it)) (h1 : it ≠ bo) (h2 : it ∉ ro) : MRow w' bo ro R :=
  ⟨h.row.grown hg (fun e => h1 (by injection e with e; exact e.symm)), h.one, fun j r hj => IMap.grown (h.maps j r hj) hg (fun e => h2 (by injection e with e; exact e ▸ List.mem_of_getElem? hj))⟩
theorem MRow.drewN {w : World} {bo : Nat} {ro : List Nat} {R : Meets} (h : MRow w bo ro R) (n : Nat) : MRow (w.drewN n) bo ro R := ⟨h.row, h.one, h.maps⟩
theorem Iter.drewN {w : World} {it r : Nat} {m : FMap} {left : Int → Bool} {c : Nat} (h : Iter w it r m left c) (n : Nat) : Iter (w.drewN n) it r m left c := h.same rfl rfl
theorem below_drewN {B : Nat} {a w : World} (h : Below B a w) (n : Nat) : Below B a (w.drewN n) := ⟨h.os, h.tape, h.output, h.size, h.block⟩
/-- What is so in the loop over those that a node meets. -/
structure CMem (w : World) (g : GraphP) (R : Meets) (bo it r k : Nat) (ro : List Nat) (rs : List Int) (left : Int → Bool) (c : Nat) (wr : World) : Prop where
  it_ : Iter wr it r (setF (R (k : Int))) left c
  rows : MRow wr bo ro R
  low : Below w.heap.size w wr
  sofar : ∀ z : Nat, R (k : Int) (z : Int) = true → left z = false → z ≠ k → rs.getD z 0 ≠ rs.getD k 0
theorem ne_left' {R : Meets} {k z u : Nat} {left : Int → Bool} {p : Nat → Prop} (h : ∀ u : Nat, R (k : Int) (u : Int) = true → left u = false → u ≠ k → p u) (h1 : R (k : Int) (u : Int) = true) (h2 : (left u && !((u : Int) == (z : Int))) = false) (h3 : u ≠ k) (hz : u ≠ z) : p u := by
  have e : ((u : Int) == (z : Int)) = false := by simp; omega
  rw [e] at h2
  exact h u h1 (by simpa using h2) h3
set_option maxRecDepth 100000 in
set_option maxHeartbeats 8000000 in
theorem check_any (w : World) (xv : GVals) (g : GraphP) (v : Value) (rs : List Int) (hg : GraphV w w.heap.size xv g) (hs : Small g) (hl : IntsV w w.heap.size v rs) : Calls Try.prog 6 #[gval g xv, v] w (CheckIs g rs w) := by
  obtain ⟨vn, vb, vs⟩ := xv
  have HG := Lib.hid hg
  obtain ⟨hn, _, _⟩ := hg
  simp only at hn
  obtain ⟨An, cn, rfl, hcn, hln, hn⟩ := hn
  clear hn
  obtain ⟨l1, l2, l3⟩ := hs.lens
  have HL := Lib.hid hl
  obtain ⟨Ar, cr, rfl, _, hlr, _⟩ := hl
  have hlr2 : rs.length ≤ 17592186044416 := by unfold lim at hlr; omega
  unfold gval
  by_cases hlen : rs.length = g.nodes.length
  · have hnf : ((rs.length : Int) != (g.nodes.length : Int)) = false := by simp [hlen]
    by_cases hneg : ∃ x ∈ rs, x < 0
    · have HN := Lib.hid hneg; have HE := Lib.hid hlen
      clear hneg hlen
      go_enter Try.func6, Try.ntmps6
      go_wp2_with (go_at_call 10; refine (containsNeg_any _ _ rs (HL.out.later ((Below.refl _ _).alloc (Nat.le_refl _) _) (Nat.le_refl _)) true ⟨fun _ => HN.out, fun _ => rfl⟩).mono ?_; rintro e w' ⟨rfl, rfl⟩)
      go_ret
      refine ⟨false, rfl, (Below.refl _ _).alloc (Nat.le_refl _) _, .inl ⟨rfl, fun h => ?_⟩⟩
      obtain ⟨x, hx, h0⟩ := HN.out
      have := h.2 x hx
      omega
    · have HN := Lib.hid hneg; have HE := Lib.hid hlen
      clear hneg hlen
      have HEq := hnf
      go_enter Try.func6, Try.ntmps6
      go_wp2_with (first | (go_at_call 10; refine (containsNeg_any _ _ rs (HL.out.later ((Below.refl _ _).alloc (Nat.le_refl _) _) (Nat.le_refl _)) false ⟨(fun h => by cases h), fun h => absurd h HN.out⟩).mono ?_; rintro e w' ⟨rfl, rfl⟩) | (go_at_call 12; refine (meets_any _ ⟨.slice An g.nodes.length cn, vb, vs⟩ g (HG.out.later ((Below.refl _ _).alloc (Nat.le_refl _) _) (Nat.le_refl _)) hs).mono ?_; rintro e w1 ⟨bo, ro, I, O, rfl, hrl, hL, hr1, hb1⟩; have HRl := Lib.hid hrl; have HLv := Lib.hid hL; have HR1 := Lib.hid hr1; have HB1 := Lib.hid (((Below.refl w.heap.size w).alloc (Nat.le_refl _) _).trans (hb1.mono (by simp))); clear hrl hL hr1 hb1))
      have HIn := Lib.hid (meetIn_all HLv.out.boundI (O := O) g.blocks.length)
      have HRg : Hid (RegsOk g.nodes.length rs) := Lib.hid ⟨HE.out, fun r hr => Int.not_lt.1 fun h => HN.out ⟨r, hr, h⟩⟩
      obtain ⟨R, hR⟩ : ∃ R : Meets, R = meetAll g I O := ⟨_, rfl⟩
      have HRd := Lib.hid hR
      have HR1' : Hid (MRow w1 bo ro R) := Lib.hid (by rw [hR]; exact HR1.out)
      have HIn' : Hid (MeetIn g.nodes.length R) := Lib.hid (by rw [hR]; exact HIn.out)
      clear hR HR1 HIn
      have hz1 := HB1.out.size
      go_loopw [21] (fun i wr => ∃ k : Nat, i = .int .i64 k ∧ k ≤ g.nodes.length ∧ Hid (MRow wr bo ro R) ∧ Hid (Below w.heap.size w wr) ∧ Hid (ApartTo R k rs)) (fun i _ => g.nodes.length - (intOf i).toNat)
      case atStart => exact ⟨0, rfl, Nat.zero_le _, HR1', HB1, Lib.hid (fun n z h => by omega)⟩
      case round =>
        obtain ⟨k, rfl, hk, HM, HB, HA⟩ := hrel
        obtain ⟨wp, rfl⟩ : ∃ wp : World, wp = wr := ⟨_, rfl⟩
        by_cases hlt : k < g.nodes.length
        · obtain ⟨r, hr⟩ := getE (l := ro) (k := k) (by have := HRl.out; omega)
          have HRk := Lib.hid hr
          have f0 := HM.out.cellAt hr
          obtain ⟨cnt, w2, hrun, hit, hg2, hz2⟩ := IMap.range (P := Try.prog) (HM.out.maps k r hr) Try.underlying40
          have H0 : Hid (CMem w g R bo wp.heap.size r k ro rs (fun x => (setF (R (k : Int)) x).isSome) cnt w2) := Lib.hid ⟨hit, HM.out.later ⟨hg2.os, hg2.tape, hg2.output, hg2.size, fun j hj => hg2.block j hj (by simp)⟩, HB.out.grown hg2 HB.out.size (by simp), fun z h1 h2 => by rw [setF_some, h1] at h2; cases h2⟩
          have HIb : Hid (wp.heap.size ≠ bo ∧ wp.heap.size ∉ ro) := Lib.hid ⟨Nat.ne_of_gt HM.out.row.lt, fun hm => by obtain ⟨p, hp⟩ := HM.out.isMap hm; exact Nat.lt_irrefl _ hp.lt⟩
          have HZp : Hid (w.heap.size ≤ wp.heap.size) := Lib.hid HB.out.size
          clear hr hit hg2 hz2
          go_wp2_with fail
          clear hrun f0
          go_loopg [7] cnt (fun c _ wr => ∃ left, Hid (CMem w g R bo wp.heap.size r k ro rs left c wr))
          case atStart => exact ⟨_, H0⟩
          case round =>
            obtain ⟨left, HC⟩ := hrel
            rcases Iter.next (P := Try.prog) HC.out.it_ 0 with ⟨hdone, hrun⟩ | ⟨x, y, w3, cnt', hlx, hmx, hrun, hit3, hlt3, hg3, hs3, hent⟩
            · have HD := Lib.hid hdone
              clear hdone
              go_wp2_with fail
              go_roundw
              case rel =>
                refine ⟨k + 1, by go_num, by omega, Lib.hid HC.out.rows, Lib.hid HC.out.low, Lib.hid (fun n z hn h1 h2 => ?_)⟩
                by_cases e : n = k
                · subst e; exact HC.out.sofar z h1 (HD.out _) h2
                · exact HA.out n z (by omega) h1 h2
              case measure => simp [intOf]; omega
            · obtain ⟨hpx, rfl⟩ := setF_val hmx
              obtain ⟨_, hx0, hx1⟩ := HIn'.out _ _ hpx
              obtain ⟨z, rfl⟩ := Int.eq_ofNat_of_zero_le hx0
              have hzN : z < g.nodes.length := by omega
              have hzr : z < rs.length := by have := HE.out; omega
              have hkr : k < rs.length := by have := HE.out; omega
              obtain ⟨rz, hrz⟩ := getE hzr
              obtain ⟨rk, hrk⟩ := getE hkr
              have hlow3 := HC.out.low.grown hg3 HC.out.low.size (fun j e => by injection e with e; have := HZp.out; omega)
              obtain ⟨bb, off, rfl, hbB, hp⟩ := (HL.out.keep (Same.of_below hlow3)).cells hzr
              have f1 := hp z rz hrz
              have f2 := hp k rk hrk
              have HLow3 := Lib.hid hlow3; have HIt3 := Lib.hid hit3; have HRz := Lib.hid hrz; have HRkk := Lib.hid hrk; have HPx := Lib.hid hpx
              have HRows3 := Lib.hid (HC.out.rows.grown hg3 HIb.out.1 HIb.out.2)
              have HLt3 := Lib.hid hlt3
              clear hlow3 hit3 hrz hrk hpx hp hmx hlx hx0 hx1 hs3 hg3 hlt3
              by_cases hzk : z = k
              · subst hzk
                clear f2
                go_upto_region 9 with fail
                go_quiet (fail)
                go_wp2_with fail
                go_roundg cnt'
                case measure => exact HLt3.out
                case rel => exact ⟨_, Lib.hid ⟨HIt3.out.drewN _, HRows3.out.drewN _, below_drewN HLow3.out _, fun u h1 h2 h3 => ne_left' (p := fun u => rs.getD u 0 ≠ rs.getD z 0) HC.out.sofar h1 h2 h3 h3⟩⟩
              · have hb : ((z : Int) != (k : Int)) = true := by simp; omega
                have HZK := Lib.hid hzk
                clear hzk
                by_cases hrr : rz = rk
                · subst hrr
                  go_upto_region 9 with fail
                  go_quiet (fail)
                  go_wp2_with fail
                  go_ret
                  refine ⟨false, rfl, below_drewN HLow3.out _, .inr ⟨HRg.out, I, O, HLv.out, ⟨(fun h => by cases h), fun h => ?_⟩⟩⟩
                  rw [← HRd.out] at h
                  exact absurd (by simp [HRz.out, HRkk.out]) (h k z hlt HPx.out HZK.out)
                · have hb2 : (rz == rk) = false := by simp [hrr]
                  have HRR := Lib.hid hrr
                  clear hrr
                  go_upto_region 9 with fail
                  go_quiet (fail)
                  go_wp2_with fail
                  go_roundg cnt'
                  case measure => exact HLt3.out
                  case rel =>
                    refine ⟨_, Lib.hid ⟨HIt3.out.drewN _, HRows3.out.drewN _, below_drewN HLow3.out _, fun u h1 h2 h3 => ?_⟩⟩
                    by_cases e : u = z
                    · subst e
                      simp [HRz.out, HRkk.out]
                      exact HRR.out
                    · have : ((u : Int) == (z : Int)) = false := by simp; omega
                      exact HC.out.sofar u h1 (by simpa [this] using h2) h3
        · go_wp2_with fail
          go_ret
          refine ⟨true, rfl, HB.out, .inr ⟨HRg.out, I, O, HLv.out, fun _ => ?_, fun _ => rfl⟩⟩
          rw [← HRd.out]
          exact fun n z hn => HA.out n z (by omega)
  · have HE := Lib.hid hlen
    have hne : ((rs.length : Int) != (g.nodes.length : Int)) = true := by simp; omega
    clear hlen
    go_enter Try.func6, Try.ntmps6
    go_wp2_with fail
    go_ret
    exact ⟨false, rfl, (Below.refl _ _).alloc (Nat.le_refl _) _, .inl ⟨rfl, fun h => HE.out h.1⟩⟩
end Go.Proofs.Ytkmfdiboekoioaa
