/- The walk of alloc.meets$1: what meets is written into the rows of maps. Conditions: numbers that are there, none twice. -/
import Derived.Test.YtkmfdiboekoioaaMaps3
import Derived.Test.YtkmfdiboekoioaaLive
namespace Go.Proofs.Ytkmfdiboekoioaa
open Go.RowKit

/-- Nothing but the blocks ro has turned, but for what is new. -/
structure Turned (w w' : World) (ro : List Nat) : Prop where
  os : w'.os = w.os
  tape : w'.tape = w.tape
  output : w'.output = w.output
  size : w.heap.size ≤ w'.heap.size
  block : ∀ k, k < w.heap.size → k ∉ ro → w'.heap[k]? = w.heap[k]?
section
variable {w w' w'' : World} {ro : List Nat}
theorem Turned.refl (w : World) (ro : List Nat) : Turned w w ro := ⟨rfl, rfl, rfl, Nat.le_refl _, fun _ _ _ => rfl⟩
theorem Turned.trans (h : Turned w w' ro) (h' : Turned w' w'' ro) : Turned w w'' ro :=
  ⟨h'.os.trans h.os, h'.tape.trans h.tape, h'.output.trans h.output, Nat.le_trans h.size h'.size, fun k hk hn => (h'.block k (Nat.lt_of_lt_of_le hk h.size) hn).trans (h.block k hk hn)⟩
theorem Turned.of_grown {row : Option Nat} (h : w.grownBy w' row) (hr : ∀ r, row = some r → r ∈ ro) : Turned w w' ro :=
  ⟨h.os, h.tape, h.output, h.size, fun k hk hn => h.block k hk (fun e => hn (hr k e.symm))⟩
theorem Turned.of_below (h : Below w.heap.size w w') : Turned w w' ro := ⟨h.os, h.tape, h.output, h.size, fun k hk _ => h.block k hk⟩
theorem Turned.undrew (h : Turned w.drew w' ro) : Turned w w' ro := ⟨h.os, h.tape, h.output, h.size, h.block⟩
theorem Turned.more {ro' : List Nat} (h : Turned w w' ro) (hs : ∀ r ∈ ro, r ∈ ro') : Turned w w' ro' := ⟨h.os, h.tape, h.output, h.size, fun k hk hn => h.block k hk (fun hr => hn (hs k hr))⟩
theorem Turned.below {B : Nat} (h : Turned w w' ro) (hB : B ≤ w.heap.size) (hr : ∀ r ∈ ro, B ≤ r) : Below B w w' :=
  ⟨h.os, h.tape, h.output, h.size, fun k hk => h.block k (Nat.lt_of_lt_of_le hk hB) (fun hk' => by have := hr k hk'; omega)⟩
end

abbrev Meets := Int → ISet
/-- A row of maps, one a node. -/
structure MRow (w : World) (bo : Nat) (ro : List Nat) (R : Meets) : Prop where
  row : Blk w bo 40 ((ro.map (fun r => Value.map (some r))).toArray)
  one : ro.Nodup
  maps : ∀ (j : Nat) r, ro[j]? = some r → SetM w r (R j)
section
variable {w w' : World} {bo : Nat} {ro : List Nat} {R : Meets}
theorem MRow.isMap (h : MRow w bo ro R) {r : Nat} (hr : r ∈ ro) : ∃ p, SetM w r p := by
  obtain ⟨j, hj⟩ := List.mem_iff_getElem?.1 hr
  exact ⟨_, h.maps j r hj⟩
theorem MRow.cell (h : MRow w bo ro R) (ht : Turned w w' ro) {a : Addr} {v : Value} (hc : w.cell? a = some v) : w'.cell? a = some v := by
  have hb := ht.block a.block (World.block_lt_of_cell? w a hc) (fun hm => by
    obtain ⟨p, hp⟩ := h.isMap hm
    exact IMap.noCell hp hc rfl)
  exact (World.cell?_of_block hb).trans hc
theorem MRow.blk (h : MRow w bo ro R) (ht : Turned w w' ro) {b : Nat} {t : TypeId} {cs : Array Value} (hb : Blk w b t cs) : Blk w' b t cs := by
  unfold Blk at hb ⊢
  rw [ht.block b (Blk.lt hb) (fun hm => by
    obtain ⟨p, es, clock, hh, _⟩ := h.isMap hm
    rw [hh] at hb; cases hb)]
  exact hb
theorem MRow.ints (h : MRow w bo ro R) (ht : Turned w w' ro) {B : Nat} {v : Value} {l : List Int} (hl : IntsV w B v l) : IntsV w' B v l := by
  obtain ⟨A, c, hv, hc, hll, hl⟩ := hl
  refine ⟨A, c, hv, hc, hll, fun h0 => ?_⟩
  obtain ⟨b, off, hA, hb, hp⟩ := hl h0
  exact ⟨b, off, hA, hb, fun j x hx => h.cell ht (hp j x hx)⟩
theorem MRow.cellAt (h : MRow w bo ro R) {j r : Nat} (hj : ro[j]? = some r) : w.cell? ⟨bo, j, none⟩ = some (.map (some r)) := by
  rw [h.row.cell j]
  simp [List.getElem?_map, hj]
theorem MRow.later (h : MRow w bo ro R) (hb : Below w.heap.size w w') : MRow w' bo ro R :=
  ⟨h.row.below hb h.row.lt, h.one, fun j r hj => SetM.below (h.maps j r hj) hb⟩
theorem MRow.drew (h : MRow w bo ro R) : MRow w.drew bo ro R := ⟨h.row, h.one, h.maps⟩
theorem MRow.ne (h : MRow w bo ro R) {r : Nat} (hr : r ∈ ro) : bo ≠ r := by
  obtain ⟨p, es, clock, hh, _⟩ := h.isMap hr
  rintro rfl
  have := h.row
  unfold Blk at this
  rw [hh] at this; cases this
end

theorem nodup_inj {α : Type} {l : List α} (h : l.Nodup) {i k : Nat} {x : α} (hi : l[i]? = some x) (hk : l[k]? = some x) : i = k := by
  obtain ⟨hil, hie⟩ := List.getElem?_eq_some_iff.1 hi
  obtain ⟨hkl, hke⟩ := List.getElem?_eq_some_iff.1 hk
  have := List.pairwise_iff_getElem.1 h
  rcases Nat.lt_trichotomy i k with q | q | q
  · exact absurd (hie.trans hke.symm) (this i k hil hkl q)
  · exact q
  · exact absurd (hke.trans hie.symm) (this k i hkl hil q)
def both (R : Meets) (a b : Int) : Meets := fun x y => R x y || (x == a && y == b) || (x == b && y == a)
/-- Two of the maps have turned. -/
theorem MRow.put2 {w w' : World} {bo : Nat} {ro : List Nat} {R : Meets} (h : MRow w bo ro R) {a b ra rb : Nat} (ha : ro[a]? = some ra) (hb : ro[b]? = some rb) (hab : a ≠ b)
    (h1 : SetM w' ra (fun z => R a z || z == (b : Int))) (h2 : SetM w' rb (fun z => R b z || z == (a : Int))) (ht : ∀ k, k < w.heap.size → k ≠ ra → k ≠ rb → w'.heap[k]? = w.heap[k]?) : MRow w' bo ro (both R a b) := by
  have hne : ∀ {k r}, ro[k]? = some r → bo ≠ r := fun hk => h.ne (List.mem_of_getElem? hk)
  refine ⟨?_, h.one, fun j r hj => ?_⟩
  · unfold Blk
    rw [ht bo h.row.lt (hne ha) (hne hb)]; exact h.row
  · by_cases e1 : j = a
    · subst e1
      rw [ha] at hj; injection hj with hj; subst hj
      have e : both R (j : Int) (b : Int) (j : Int) = fun z => R j z || z == (b : Int) := by
        funext z
        have : ((j : Int) == (b : Int)) = false := by simp; omega
        simp [both, this]
      rw [e]; exact h1
    · by_cases e2 : j = b
      · subst e2
        rw [hb] at hj; injection hj with hj; subst hj
        have e : both R (a : Int) (j : Int) (j : Int) = fun z => R j z || z == (a : Int) := by
          funext z
          have : ((j : Int) == (a : Int)) = false := by simp; omega
          simp [both, this]
        rw [e]; exact h2
      · have inj : ∀ {i k}, ro[i]? = some r → ro[k]? = some r → i = k := fun hi hk => by
          exact nodup_inj h.one hi hk
        have n1 : r ≠ ra := fun e => e1 (inj hj (e ▸ ha))
        have n2 : r ≠ rb := fun e => e2 (inj hj (e ▸ hb))
        have e : both R (a : Int) (b : Int) (j : Int) = R j := by
          funext z
          have h1 : ((j : Int) == (a : Int)) = false := by simp; omega
          have h2 : ((j : Int) == (b : Int)) = false := by simp; omega
          simp [both, h1, h2]
        rw [e]
        exact IMap.same (h.maps j r hj) (ht r (IMap.lt (h.maps j r hj)) n1 n2)

/-- What is told of a with those ahead of it. -/
def tellIn (whole : Bool) (l0 a : Int) (R : Meets) (bs : List Int) : Meets := bs.foldl (fun R b => if whole || b == l0 then both R a b else R) R
def tellTo (whole : Bool) (l : List Int) (R : Meets) (k : Nat) : Meets := (List.range k).foldl (fun R i => tellIn whole (l.getD 0 0) (l.getD i 0) R (l.take i)) R
def tell (whole : Bool) (l : List Int) (R : Meets) : Meets := tellTo whole l R l.length
theorem tellTo_step (whole : Bool) (l : List Int) (R : Meets) (k : Nat) (a : Int) (ha : l[k]? = some a) : tellTo whole l R (k + 1) = tellIn whole (l.getD 0 0) a (tellTo whole l R k) (l.take k) := by
  unfold tellTo
  rw [List.range_succ, List.foldl_append]
  simp [ha]
theorem tellIn_step (whole : Bool) (l0 a : Int) (R : Meets) (bs : List Int) (j : Nat) (b : Int) (hb : bs[j]? = some b) :
    tellIn whole l0 a R (bs.take (j + 1)) = if whole || b == l0 then both (tellIn whole l0 a R (bs.take j)) a b else tellIn whole l0 a R (bs.take j) := by
  unfold tellIn
  rw [List.take_add_one, hb, List.foldl_append]; rfl

def ToldIs (w : World) (bo : Nat) (ro : List Nat) (R : Meets) (e : Ending) (w' : World) : Prop := e = .returned (.tuple #[]) ∧ MRow w' bo ro R ∧ Turned w w' ro

set_option maxRecDepth 100000 in
set_option maxHeartbeats 4000000 in
theorem told_any (w : World) (bo b3 : Nat) (ro : List Nat) (R : Meets) (v : Value) (l : List Int) (whole : Bool) (hM : MRow w bo ro R) (hl : IntsV w w.heap.size v l) (hn : l.Nodup) (hin : ∀ x ∈ l, 0 ≤ x ∧ x < ro.length) (hlim : ro.length ≤ 5000)
    (h3 : w.cell? ⟨b3, 0, none⟩ = some (.slice (some ⟨bo, 0, none⟩) ro.length ro.length)) :
    Calls Try.prog 20 #[v, .bool whole, .pointer (some ⟨b3, 0, none⟩)] w (ToldIs w bo ro (tell whole l R)) := by
  have HM := Lib.hid hM; have HL := Lib.hid hl; have HN := Lib.hid hn; have HIn := Lib.hid hin; have H3 := Lib.hid h3
  obtain ⟨A, c, rfl, hlc, hll, _⟩ := hl
  have hlim2 : l.length ≤ 17592186044416 := by unfold lim at hll; omega
  clear hM hn hin h3
  go_enter Try.func20, Try.ntmps20
  go_wp2_with fail
  go_loopw [11] (fun i wr => ∃ k : Nat, k ≤ l.length ∧ i = .int .i64 k ∧ MRow wr bo ro (tellTo whole l R k) ∧ Turned w wr ro) (fun i _ => l.length - (intOf i).toNat)
  case atStart => exact ⟨0, Nat.zero_le _, rfl, HM.out, Turned.refl _ _⟩
  case round =>
    obtain ⟨k, hk, rfl, hm, ht⟩ := hrel
    have HMk := Lib.hid hm; have HT := Lib.hid ht
    clear hm ht
    by_cases hlt : k < l.length
    · obtain ⟨b, off, rfl, hbB, hp⟩ := HL.out.cells hlt
      obtain ⟨x, hx⟩ := getE hlt
      obtain ⟨z, hz⟩ := getE (l := l) (k := 0) (by omega)
      have f0 := HM.out.cell HT.out (hp k x hx)
      have HX := Lib.hid hx; have HP0 := Lib.hid hp; have HZ := Lib.hid hz
      have hxin := HIn.out x (List.mem_of_getElem? hx)
      clear hx hp hz
      go_wp2_with fail
      obtain ⟨k0, rfl⟩ : ∃ k0 : Nat, k0 = k := ⟨_, rfl⟩
      clear f0
      obtain ⟨wp, rfl⟩ : ∃ wp : World, wp = wr := ⟨_, rfl⟩
      go_loopw [20] (fun i wr => ∃ j : Nat, j ≤ k0 ∧ i = .int .i64 j ∧ MRow wr bo ro (tellIn whole (l.getD 0 0) x (tellTo whole l R k0) ((l.take k0).take j)) ∧ Turned w wr ro) (fun i _ => k0 - (intOf i).toNat)
      case atStart => exact ⟨0, Nat.zero_le _, rfl, HMk.out, HT.out⟩
      case round =>
        obtain ⟨j, hj, rfl, hm2, ht2⟩ := hrel
        have HM2 := Lib.hid hm2; have HT2 := Lib.hid ht2
        clear hm2 ht2
        by_cases hjl : j < k0
        · obtain ⟨y, hy⟩ := getE (l := l) (k := j) (by omega)
          have e1 := HM.out.cell HT2.out (HP0.out j y hy)
          have e2 := HM.out.cell HT2.out (HP0.out 0 z HZ.out)
          simp only [Nat.add_zero] at e2
          have f3 := HM.out.cell HT2.out H3.out
          have hyin := HIn.out y (List.mem_of_getElem? hy)
          obtain ⟨xa, rfl⟩ := Int.eq_ofNat_of_zero_le hxin.1
          obtain ⟨ya, rfl⟩ := Int.eq_ofNat_of_zero_le hyin.1
          have hxy : xa ≠ ya := fun e => by
            subst e
            have := nodup_inj HN.out HX.out hy
            omega
          obtain ⟨ra, hra⟩ := getE (l := ro) (k := xa) (by omega)
          obtain ⟨rb, hrb⟩ := getE (l := ro) (k := ya) (by omega)
          have hne : ra ≠ rb := fun e => by
            subst e
            exact hxy (nodup_inj HM.out.one hra hrb)
          have HRA := Lib.hid hra; have HRB := Lib.hid hrb; have HY := Lib.hid hy
          have hz0 : l.getD 0 0 = z := by simp [HZ.out]
          clear hra hrb hy
          cases whole
          · by_cases hyz : (ya : Int) = z
            · subst hyz
              obtain ⟨v1, s1, w1, hr1, hs1, hg1, hz1⟩ := IMap.entry (P := Try.prog) (IMap.drew (HM2.out.maps xa ra HRA.out)) Try.underlying40 Try.underlying3 (by kernel_rfl) (ya : Int)
              obtain ⟨w2, hr2, hm2, hg2, hz2⟩ := IMapS.store (P := Try.prog) hs1 40 1
              obtain ⟨v3, s3, w3, hr3, hs3, hg3, hz3⟩ := IMap.entry (P := Try.prog) (IMap.grown (IMap.grown (IMap.drew (HM2.out.maps ya rb HRB.out)) hg1 (fun e => hne (by injection e with e; exact e.symm))) hg2 (fun e => hne (by injection e with e; exact e.symm))) Try.underlying40 Try.underlying3 (by kernel_rfl) (xa : Int)
              obtain ⟨w4, hr4, hm4, hg4, hz4⟩ := IMapS.store (P := Try.prog) hs3 40 1
              have t1 : Turned wr.drew w1 ro := Turned.of_grown hg1 (fun r e => by injection e with e; subst e; exact List.mem_of_getElem? HRA.out)
              have t2 := t1.trans (Turned.of_grown hg2 (fun r e => by injection e with e; subst e; exact List.mem_of_getElem? HRA.out))
              have t3 := t2.trans (Turned.of_grown hg3 (fun r e => by injection e with e; subst e; exact List.mem_of_getElem? HRB.out))
              have t4 := t3.trans (Turned.of_grown hg4 (fun r e => by injection e with e; subst e; exact List.mem_of_getElem? HRB.out))
              have hS0 : wr.drew.cell? ⟨b3, 0, none⟩ = some (.slice (some ⟨bo, 0, none⟩) ro.length ro.length) ∧ wr.drew.cell? ⟨bo, xa, none⟩ = some (.map (some ra)) ∧ wr.drew.cell? ⟨bo, ya, none⟩ = some (.map (some rb)) := ⟨f3, HM2.out.cellAt HRA.out, HM2.out.cellAt HRB.out⟩
              have k := fun {W : World} (t : Turned wr.drew W ro) => And.intro (HM2.out.drew.cell t hS0.1) (And.intro (HM2.out.drew.cell t hS0.2.1) (HM2.out.drew.cell t hS0.2.2))
              have hS1 := k t1
              have hS2 := k t2
              have hS3 := k t3
              have hS4 := k t4
              have H0 := Lib.hid hS0; have H1 := Lib.hid hS1; have H2 := Lib.hid hS2; have H3' := Lib.hid hS3; have H4 := Lib.hid hS4; have HT4 := Lib.hid t4
              have HP : Hid (MRow w4 bo ro (both (tellIn false (l.getD 0 0) xa (tellTo false l R k0) ((l.take k0).take j)) xa ya)) := Lib.hid (HM2.out.drew.put2 HRA.out HRB.out hxy
                (by have := IMap.grown (IMap.grown hm2 hg3 (fun e => hne (by injection e with e))) hg4 (fun e => hne (by injection e with e)); rwa [FMap.put_put, setF_put] at this)
                (by have := hm4; rwa [FMap.put_put, setF_put] at this)
                (fun q hq n1 n2 => by
                  have a1 := hg1.block q hq (fun e => n1 (by injection e with e))
                  have a2 := hg2.block q (by omega) (fun e => n1 (by injection e with e))
                  have a3 := hg3.block q (by omega) (fun e => n2 (by injection e with e))
                  have a4 := hg4.block q (by omega) (fun e => n2 (by injection e with e))
                  exact a4.trans (a3.trans (a2.trans a1))))
              clear hs1 hs3 hm2 hm4 hg1 hg2 hg3 hg4 t1 t2 t3 t4 hS0 hS1 hS2 hS3 hS4 k hz1 hz2 hz3 hz4
              go_upto_region 7 with fail
              go_region_held3 (fun W => W.cell? ⟨b3, 0, none⟩ = some (.slice (some ⟨bo, 0, none⟩) ro.length ro.length) ∧ W.cell? ⟨bo, xa, none⟩ = some (.map (some ra)) ∧ W.cell? ⟨bo, ya, none⟩ = some (.map (some rb))) (first | exact H0.out | exact H1.out | exact H2.out | exact H3'.out | exact H4.out) (fail)
              go_wp2_with fail
              go_roundw
              case rel =>
                refine ⟨j + 1, by omega, by go_num, ?_, HT2.out.trans HT4.out.undrew⟩
                rw [tellIn_step _ _ _ _ _ j (ya : Int) (by rw [List.getElem?_take_of_lt hjl]; exact HY.out), if_pos (by rw [hz0]; simp)]; exact HP.out
              case measure => simp [intOf]; omega
            · have hyb : ((ya : Int) == z) = false := by simp [hyz]
              go_wp2_with fail
              go_roundw
              case rel =>
                refine ⟨j + 1, by omega, by go_num, ?_, HT2.out⟩
                rw [tellIn_step _ _ _ _ _ j (ya : Int) (by rw [List.getElem?_take_of_lt hjl]; exact HY.out), if_neg (by rw [hz0, hyb]; simp)]; exact HM2.out
              case measure => simp [intOf]; omega
          · obtain ⟨v1, s1, w1, hr1, hs1, hg1, hz1⟩ := IMap.entry (P := Try.prog) (IMap.drew (HM2.out.maps xa ra HRA.out)) Try.underlying40 Try.underlying3 (by kernel_rfl) (ya : Int)
            obtain ⟨w2, hr2, hm2, hg2, hz2⟩ := IMapS.store (P := Try.prog) hs1 40 1
            obtain ⟨v3, s3, w3, hr3, hs3, hg3, hz3⟩ := IMap.entry (P := Try.prog) (IMap.grown (IMap.grown (IMap.drew (HM2.out.maps ya rb HRB.out)) hg1 (fun e => hne (by injection e with e; exact e.symm))) hg2 (fun e => hne (by injection e with e; exact e.symm))) Try.underlying40 Try.underlying3 (by kernel_rfl) (xa : Int)
            obtain ⟨w4, hr4, hm4, hg4, hz4⟩ := IMapS.store (P := Try.prog) hs3 40 1
            have t1 : Turned wr.drew w1 ro := Turned.of_grown hg1 (fun r e => by injection e with e; subst e; exact List.mem_of_getElem? HRA.out)
            have t2 := t1.trans (Turned.of_grown hg2 (fun r e => by injection e with e; subst e; exact List.mem_of_getElem? HRA.out))
            have t3 := t2.trans (Turned.of_grown hg3 (fun r e => by injection e with e; subst e; exact List.mem_of_getElem? HRB.out))
            have t4 := t3.trans (Turned.of_grown hg4 (fun r e => by injection e with e; subst e; exact List.mem_of_getElem? HRB.out))
            have hS0 : wr.drew.cell? ⟨b3, 0, none⟩ = some (.slice (some ⟨bo, 0, none⟩) ro.length ro.length) ∧ wr.drew.cell? ⟨bo, xa, none⟩ = some (.map (some ra)) ∧ wr.drew.cell? ⟨bo, ya, none⟩ = some (.map (some rb)) := ⟨f3, HM2.out.cellAt HRA.out, HM2.out.cellAt HRB.out⟩
            have k := fun {W : World} (t : Turned wr.drew W ro) => And.intro (HM2.out.drew.cell t hS0.1) (And.intro (HM2.out.drew.cell t hS0.2.1) (HM2.out.drew.cell t hS0.2.2))
            have hS1 := k t1
            have hS2 := k t2
            have hS3 := k t3
            have hS4 := k t4
            have H0 := Lib.hid hS0; have H1 := Lib.hid hS1; have H2 := Lib.hid hS2; have H3' := Lib.hid hS3; have H4 := Lib.hid hS4; have HT4 := Lib.hid t4
            have HP : Hid (MRow w4 bo ro (both (tellIn true (l.getD 0 0) xa (tellTo true l R k0) ((l.take k0).take j)) xa ya)) := Lib.hid (HM2.out.drew.put2 HRA.out HRB.out hxy
              (by have := IMap.grown (IMap.grown hm2 hg3 (fun e => hne (by injection e with e))) hg4 (fun e => hne (by injection e with e)); rwa [FMap.put_put, setF_put] at this)
              (by have := hm4; rwa [FMap.put_put, setF_put] at this)
              (fun q hq n1 n2 => by
                have a1 := hg1.block q hq (fun e => n1 (by injection e with e))
                have a2 := hg2.block q (by omega) (fun e => n1 (by injection e with e))
                have a3 := hg3.block q (by omega) (fun e => n2 (by injection e with e))
                have a4 := hg4.block q (by omega) (fun e => n2 (by injection e with e))
                exact a4.trans (a3.trans (a2.trans a1))))
            clear hs1 hs3 hm2 hm4 hg1 hg2 hg3 hg4 t1 t2 t3 t4 hS0 hS1 hS2 hS3 hS4 k hz1 hz2 hz3 hz4
            go_upto_region 7 with fail
            go_region_held3 (fun W => W.cell? ⟨b3, 0, none⟩ = some (.slice (some ⟨bo, 0, none⟩) ro.length ro.length) ∧ W.cell? ⟨bo, xa, none⟩ = some (.map (some ra)) ∧ W.cell? ⟨bo, ya, none⟩ = some (.map (some rb))) (first | exact H0.out | exact H1.out | exact H2.out | exact H3'.out | exact H4.out) (fail)
            go_wp2_with fail
            go_roundw
            case rel =>
              refine ⟨j + 1, by omega, by go_num, ?_, HT2.out.trans HT4.out.undrew⟩
              rw [tellIn_step _ _ _ _ _ j (ya : Int) (by rw [List.getElem?_take_of_lt hjl]; exact HY.out), if_pos (by simp)]; exact HP.out
            case measure => simp [intOf]; omega
        · go_wp2_with fail
          go_roundw
          case rel =>
            refine ⟨k0 + 1, by omega, by go_num, ?_, HT2.out⟩
            rw [tellTo_step whole l R k0 x HX.out]
            have := HM2.out
            rwa [List.take_of_length_le (by rw [List.length_take]; omega)] at this
          case measure => simp [intOf]; omega
    · go_wp2_with fail
      go_end0
      refine ⟨rfl, ?_, HT.out⟩
      have := HMk.out
      rwa [show k = l.length from by omega] at this
end Go.Proofs.Ytkmfdiboekoioaa
