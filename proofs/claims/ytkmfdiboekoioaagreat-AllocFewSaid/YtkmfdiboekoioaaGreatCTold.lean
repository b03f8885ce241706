/- The walk of alloc.meets$1: what meets is written into the rows of maps. Conditions: numbers that are there, none twice. -/
import Derived.Test.YtkmfdiboekoioaaGreatCLivePure
import Derived.Test.YtkmfdiboekoioaaGreatCLive
set_option linter.unusedSimpArgs false
set_option linter.unusedVariables false
namespace Go.Proofs.YtkmfdiboekoioaaGreat
open Go.RowKit

/-- Nothing but the blocks ro has turned, but for what is new. -/
structure Turned (w w' : World) (ro : List Nat) : Prop where
 os : w'.os = w.os
 tape : w'.tape = w.tape
 output : w'.output = w.output
 size : w.heap.size ≤ w'.heap.size
 block : ∀ k, k < w.heap.size → k ∉ ro → w'.heap[k]? = w.heap[k]?
section
variable {w w' w'' : World} {ro : List Nat}
theorem Turned.refl (w : World) (ro : List Nat) : Turned w w ro := ⟨rfl, rfl, rfl, Nat.le_refl _, fun _ _ _ => rfl⟩
theorem Turned.trans (h : Turned w w' ro) (h' : Turned w' w'' ro) : Turned w w'' ro :=
 ⟨h'.os.trans h.os, h'.tape.trans h.tape, h'.output.trans h.output, Nat.le_trans h.size h'.size, fun k hk hn => (h'.block k (Nat.lt_of_lt_of_le hk h.size) hn).trans (h.block k hk hn)⟩
theorem Turned.of_grown {row : Option Nat} (h : w.grownBy w' row) (hr : ∀ r, row = some r → r ∈ ro) : Turned w w' ro :=
 ⟨h.os, h.tape, h.output, h.size, fun k hk hn => h.block k hk (fun e => hn (hr k e.symm))⟩
theorem Turned.of_below (h : Below w.heap.size w w') : Turned w w' ro := ⟨h.os, h.tape, h.output, h.size, fun k hk _ => h.block k hk⟩
theorem Turned.undrew (h : Turned w.drew w' ro) : Turned w w' ro := ⟨h.os, h.tape, h.output, h.size, h.block⟩
theorem Turned.more {ro' : List Nat} (h : Turned w w' ro) (hs : ∀ r ∈ ro, r ∈ ro') : Turned w w' ro' := ⟨h.os, h.tape, h.output, h.size, fun k hk hn => h.block k hk (fun hr => hn (hs k hr))⟩
theorem Turned.below {B : Nat} (h : Turned w w' ro) (hB : B ≤ w.heap.size) (hr : ∀ r ∈ ro, B ≤ r) : Below B w w' :=
 ⟨h.os, h.tape, h.output, h.size, fun k hk => h.block k (Nat.lt_of_lt_of_le hk hB) (fun hk' => by have := hr k hk'; omega)⟩
end

abbrev Meets := Int → ISet
/-- A row of maps, one a node. -/
structure MRow (w : World) (bo : Nat) (ro : List Nat) (R : Meets) : Prop where
 row : Blk w bo 76 ((ro.map (fun r => Value.map (some r))).toArray)
 one : ro.Nodup
 maps : ∀ (j : Nat) r, ro[j]? = some r → SetM w r (R j)
section
variable {w w' : World} {bo : Nat} {ro : List Nat} {R : Meets}
theorem MRow.isMap (h : MRow w bo ro R) {r : Nat} (hr : r ∈ ro) : ∃ p, SetM w r p := by
 obtain ⟨j, hj⟩ := List.mem_iff_getElem?.1 hr
 exact ⟨_, h.maps j r hj⟩
theorem MRow.cell (h : MRow w bo ro R) (ht : Turned w w' ro) {a : Addr} {v : Value} (hc : w.cell? a = some v) : w'.cell? a = some v := by
 have hb := ht.block a.block (World.block_lt_of_cell? w a hc) (fun hm => by
  obtain ⟨p, hp⟩ := h.isMap hm
  exact IMap.noCell hp hc rfl)
 exact (World.cell?_of_block hb).trans hc
theorem MRow.blk (h : MRow w bo ro R) (ht : Turned w w' ro) {b : Nat} {t : TypeId} {cs : Array Value} (hb : Blk w b t cs) : Blk w' b t cs := by
 unfold Blk at hb ⊢
 rw [ht.block b (Blk.lt hb) (fun hm => by
  obtain ⟨p, es, clock, hh, _⟩ := h.isMap hm
  rw [hh] at hb; cases hb)]
 exact hb
theorem MRow.ints (h : MRow w bo ro R) (ht : Turned w w' ro) {B : Nat} {v : Value} {l : List Int} (hl : IntsV w B v l) : IntsV w' B v l := by
 obtain ⟨A, c, hv, hc, hll, hl⟩ := hl
 refine ⟨A, c, hv, hc, hll, fun h0 => ?_⟩
 obtain ⟨b, off, hA, hb, hp⟩ := hl h0
 exact ⟨b, off, hA, hb, fun j x hx => h.cell ht (hp j x hx)⟩
theorem MRow.cellAt (h : MRow w bo ro R) {j r : Nat} (hj : ro[j]? = some r) : w.cell? ⟨bo, j, none⟩ = some (.map (some r)) := by
 rw [h.row.cell j]
 simp [List.getElem?_map, hj]
theorem MRow.later (h : MRow w bo ro R) (hb : Below w.heap.size w w') : MRow w' bo ro R :=
 ⟨h.row.below hb h.row.lt, h.one, fun j r hj => SetM.below (h.maps j r hj) hb⟩
theorem MRow.drew (h : MRow w bo ro R) : MRow w.drew bo ro R := ⟨h.row, h.one, h.maps⟩
theorem MRow.ne (h : MRow w bo ro R) {r : Nat} (hr : r ∈ ro) : bo ≠ r := by
 obtain ⟨p, es, clock, hh, _⟩ := h.isMap hr
 rintro rfl
 have := h.row
 unfold Blk at this
 rw [hh] at this; cases this
end

theorem nodup_inj {α : Type} {l : List α} (h : l.Nodup) {i k : Nat} {x : α} (hi : l[i]? = some x) (hk : l[k]? = some x) : i = k := by
 obtain ⟨hil, hie⟩ := List.getElem?_eq_some_iff.1 hi
 obtain ⟨hkl, hke⟩ := List.getElem?_eq_some_iff.1 hk
 have := List.pairwise_iff_getElem.1 h
 rcases Nat.lt_trichotomy i k with q | q | q
 ·exact absurd (hie.trans hke.symm) (this i k hil hkl q)
 ·exact q
 ·exact absurd (hke.trans hie.symm) (this k i hkl hil q)
def both (R : Meets) (a b : Int) : Meets := fun x y => R x y || (x == a && y == b) || (x == b && y == a)
/-- Two of the maps have turned. -/
theorem MRow.put2 {w w' : World} {bo : Nat} {ro : List Nat} {R : Meets} (h : MRow w bo ro R) {a b ra rb : Nat} (ha : ro[a]? = some ra) (hb : ro[b]? = some rb) (hab : a ≠ b)
  (h1 : SetM w' ra (fun z => R a z || z == (b : Int))) (h2 : SetM w' rb (fun z => R b z || z == (a : Int))) (ht : ∀ k, k < w.heap.size → k ≠ ra → k ≠ rb → w'.heap[k]? = w.heap[k]?) : MRow w' bo ro (both R a b) := by
 have hne : ∀ {k r}, ro[k]? = some r → bo ≠ r := fun hk => h.ne (List.mem_of_getElem? hk)
 refine ⟨?_, h.one, fun j r hj => ?_⟩
 ·unfold Blk
  rw [ht bo h.row.lt (hne ha) (hne hb)]; exact h.row
 ·by_cases e1 : j = a
  ·subst e1
   rw [ha] at hj; injection hj with hj; subst hj
   have e : both R (j : Int) (b : Int) (j : Int) = fun z => R j z || z == (b : Int) := by
    funext z
    have : ((j : Int) == (b : Int)) = false := by simp; omega
    simp [both, this]
   rw [e]; exact h1
  ·by_cases e2 : j = b
   ·subst e2
    rw [hb] at hj; injection hj with hj; subst hj
    have e : both R (a : Int) (j : Int) (j : Int) = fun z => R j z || z == (a : Int) := by
     funext z
     have : ((j : Int) == (a : Int)) = false := by simp; omega
     simp [both, this]
    rw [e]; exact h2
   ·have inj : ∀ {i k}, ro[i]? = some r → ro[k]? = some r → i = k := fun hi hk => by
     exact nodup_inj h.one hi hk
    have n1 : r ≠ ra := fun e => e1 (inj hj (e ▸ ha))
    have n2 : r ≠ rb := fun e => e2 (inj hj (e ▸ hb))
    have e : both R (a : Int) (b : Int) (j : Int) = R j := by
     funext z
     have h1 : ((j : Int) == (a : Int)) = false := by simp; omega
     have h2 : ((j : Int) == (b : Int)) = false := by simp; omega
     simp [both, h1, h2]
    rw [e]
    exact IMap.same (h.maps j r hj) (ht r (IMap.lt (h.maps j r hj)) n1 n2)

/-- What is told of a with those ahead of it. -/
def tellIn (whole : Bool) (l0 a : Int) (R : Meets) (bs : List Int) : Meets := bs.foldl (fun R b => if whole || b == l0 then both R a b else R) R
def tellTo (whole : Bool) (l : List Int) (R : Meets) (k : Nat) : Meets := (List.range k).foldl (fun R i => tellIn whole (l.getD 0 0) (l.getD i 0) R (l.take i)) R
def tell (whole : Bool) (l : List Int) (R : Meets) : Meets := tellTo whole l R l.length
theorem tellTo_step (whole : Bool) (l : List Int) (R : Meets) (k : Nat) (a : Int) (ha : l[k]? = some a) : tellTo whole l R (k + 1) = tellIn whole (l.getD 0 0) a (tellTo whole l R k) (l.take k) := by
 unfold tellTo
 rw [List.range_succ, List.foldl_append]
 simp [ha]
theorem tellIn_step (whole : Bool) (l0 a : Int) (R : Meets) (bs : List Int) (j : Nat) (b : Int) (hb : bs[j]? = some b) :
  tellIn whole l0 a R (bs.take (j + 1)) = if whole || b == l0 then both (tellIn whole l0 a R (bs.take j)) a b else tellIn whole l0 a R (bs.take j) := by
 unfold tellIn
 rw [List.take_add_one, hb, List.foldl_append]; rfl

def ToldIs (w : World) (bo : Nat) (ro : List Nat) (R : Meets) (e : Ending) (w' : World) : Prop := e = .returned (.tuple #[]) ∧ MRow w' bo ro R ∧ Turned w w' ro

set_option maxRecDepth 100000 in
set_option maxHeartbeats 4000000 in
theorem told_any (w : World) (bo b3 : Nat) (ro : List Nat) (R : Meets) (v : Value) (l : List Int) (whole : Bool) (hM : MRow w bo ro R) (hl : IntsV w w.heap.size v l) (hn : l.Nodup) (hin : ∀ x ∈ l, 0 ≤ x ∧ x < ro.length) (hlim : ro.length ≤ 5000)
  (h3 : w.cell? ⟨b3, 0, none⟩ = some (.slice (some ⟨bo, 0, none⟩) ro.length ro.length)) :
  Calls Tryz.prog 76 #[v, .bool whole, .pointer (some ⟨b3, 0, none⟩)] w (ToldIs w bo ro (tell whole l R)) := by
 have HM := Lib.hid hM; have HL := Lib.hid hl; have HN := Lib.hid hn; have HIn := Lib.hid hin; have H3 := Lib.hid h3
 obtain ⟨A, c, rfl, hlc, hll, _⟩ := hl
 have hlim2 : l.length ≤ 17592186044416 := by unfold lim at hll; omega
 clear hM hn hin h3
 go_enter Tryz.func76, Tryz.ntmps76
 go_wp2_with fail
 go_loopw [11] (fun i wr => ∃ k : Nat, k ≤ l.length ∧ i = .int .i64 k ∧ MRow wr bo ro (tellTo whole l R k) ∧ Turned w wr ro) (fun i _ => l.length - (intOf i).toNat)
 case atStart => exact ⟨0, Nat.zero_le _, rfl, HM.out, Turned.refl _ _⟩
 case round =>
  obtain ⟨k, hk, rfl, hm, ht⟩ := hrel
  have HMk := Lib.hid hm; have HT := Lib.hid ht
  clear hm ht
  by_cases hlt : k < l.length
  ·obtain ⟨b, off, rfl, hbB, hp⟩ := HL.out.cells hlt
   obtain ⟨x, hx⟩ := getE hlt
   obtain ⟨z, hz⟩ := getE (l := l) (k := 0) (by omega)
   have f0 := HM.out.cell HT.out (hp k x hx)
   have HX := Lib.hid hx; have HP0 := Lib.hid hp; have HZ := Lib.hid hz
   have hxin := HIn.out x (List.mem_of_getElem? hx)
   clear hx hp hz
   go_wp2_with fail
   obtain ⟨k0, rfl⟩ : ∃ k0 : Nat, k0 = k := ⟨_, rfl⟩
   clear f0
   obtain ⟨wp, rfl⟩ : ∃ wp : World, wp = wr := ⟨_, rfl⟩
   go_loopw [20] (fun i wr => ∃ j : Nat, j ≤ k0 ∧ i = .int .i64 j ∧ MRow wr bo ro (tellIn whole (l.getD 0 0) x (tellTo whole l R k0) ((l.take k0).take j)) ∧ Turned w wr ro) (fun i _ => k0 - (intOf i).toNat)
   case atStart => exact ⟨0, Nat.zero_le _, rfl, HMk.out, HT.out⟩
   case round =>
    obtain ⟨j, hj, rfl, hm2, ht2⟩ := hrel
    have HM2 := Lib.hid hm2; have HT2 := Lib.hid ht2
    clear hm2 ht2
    by_cases hjl : j < k0
    ·obtain ⟨y, hy⟩ := getE (l := l) (k := j) (by omega)
     have e1 := HM.out.cell HT2.out (HP0.out j y hy)
     have e2 := HM.out.cell HT2.out (HP0.out 0 z HZ.out)
     simp only [Nat.add_zero] at e2
     have f3 := HM.out.cell HT2.out H3.out
     have hyin := HIn.out y (List.mem_of_getElem? hy)
     obtain ⟨xa, rfl⟩ := Int.eq_ofNat_of_zero_le hxin.1
     obtain ⟨ya, rfl⟩ := Int.eq_ofNat_of_zero_le hyin.1
     have hxy : xa ≠ ya := fun e => by
      subst e
      have := nodup_inj HN.out HX.out hy
      omega
     obtain ⟨ra, hra⟩ := getE (l := ro) (k := xa) (by omega)
     obtain ⟨rb, hrb⟩ := getE (l := ro) (k := ya) (by omega)
     have hne : ra ≠ rb := fun e => by
      subst e
      exact hxy (nodup_inj HM.out.one hra hrb)
     have HRA := Lib.hid hra; have HRB := Lib.hid hrb; have HY := Lib.hid hy
     have hz0 : l.getD 0 0 = z := by simp [HZ.out]
     clear hra hrb hy
     cases whole
     ·by_cases hyz : (ya : Int) = z
      ·subst hyz
       obtain ⟨v1, s1, w1, hr1, hs1, hg1, hz1⟩ := IMap.entry (P := Tryz.prog) (IMap.drew (HM2.out.maps xa ra HRA.out)) Tryz.underlying76 Tryz.underlying3 (by kernel_rfl) (ya : Int)
       obtain ⟨w2, hr2, hm2, hg2, hz2⟩ := IMapS.store (P := Tryz.prog) hs1 76 1
       obtain ⟨v3, s3, w3, hr3, hs3, hg3, hz3⟩ := IMap.entry (P := Tryz.prog) (IMap.grown (IMap.grown (IMap.drew (HM2.out.maps ya rb HRB.out)) hg1 (fun e => hne (by injection e with e; exact e.symm))) hg2 (fun e => hne (by injection e with e; exact e.symm))) Tryz.underlying76 Tryz.underlying3 (by kernel_rfl) (xa : Int)
       obtain ⟨w4, hr4, hm4, hg4, hz4⟩ := IMapS.store (P := Tryz.prog) hs3 76 1
       have t1 : Turned wr.drew w1 ro := Turned.of_grown hg1 (fun r e => by injection e with e; subst e; exact List.mem_of_getElem? HRA.out)
       have t2 := t1.trans (Turned.of_grown hg2 (fun r e => by injection e with e; subst e; exact List.mem_of_getElem? HRA.out))
       have t3 := t2.trans (Turned.of_grown hg3 (fun r e => by injection e with e; subst e; exact List.mem_of_getElem? HRB.out))
       have t4 := t3.trans (Turned.of_grown hg4 (fun r e => by injection e with e; subst e; exact List.mem_of_getElem? HRB.out))
       have hS0 : wr.drew.cell? ⟨b3, 0, none⟩ = some (.slice (some ⟨bo, 0, none⟩) ro.length ro.length) ∧ wr.drew.cell? ⟨bo, xa, none⟩ = some (.map (some ra)) ∧ wr.drew.cell? ⟨bo, ya, none⟩ = some (.map (some rb)) := ⟨f3, HM2.out.cellAt HRA.out, HM2.out.cellAt HRB.out⟩
       have k := fun {W : World} (t : Turned wr.drew W ro) => And.intro (HM2.out.drew.cell t hS0.1) (And.intro (HM2.out.drew.cell t hS0.2.1) (HM2.out.drew.cell t hS0.2.2))
       have hS1 := k t1
       have hS2 := k t2
       have hS3 := k t3
       have hS4 := k t4
       have H0 := Lib.hid hS0; have H1 := Lib.hid hS1; have H2 := Lib.hid hS2; have H3' := Lib.hid hS3; have H4 := Lib.hid hS4; have HT4 := Lib.hid t4
       have HP : Hid (MRow w4 bo ro (both (tellIn false (l.getD 0 0) xa (tellTo false l R k0) ((l.take k0).take j)) xa ya)) := Lib.hid (HM2.out.drew.put2 HRA.out HRB.out hxy
        (by have := IMap.grown (IMap.grown hm2 hg3 (fun e => hne (by injection e with e))) hg4 (fun e => hne (by injection e with e)); rwa [FMap.put_put, setF_put] at this)
        (by have := hm4; rwa [FMap.put_put, setF_put] at this)
        (fun q hq n1 n2 => by
         have a1 := hg1.block q hq (fun e => n1 (by injection e with e))
         have a2 := hg2.block q (by omega) (fun e => n1 (by injection e with e))
         have a3 := hg3.block q (by omega) (fun e => n2 (by injection e with e))
         have a4 := hg4.block q (by omega) (fun e => n2 (by injection e with e))
         exact a4.trans (a3.trans (a2.trans a1))))
       clear hs1 hs3 hm2 hm4 hg1 hg2 hg3 hg4 t1 t2 t3 t4 hS0 hS1 hS2 hS3 hS4 k hz1 hz2 hz3 hz4
       go_upto_region 7 with fail
       go_region_held3 (fun W => W.cell? ⟨b3, 0, none⟩ = some (.slice (some ⟨bo, 0, none⟩) ro.length ro.length) ∧ W.cell? ⟨bo, xa, none⟩ = some (.map (some ra)) ∧ W.cell? ⟨bo, ya, none⟩ = some (.map (some rb))) (first | exact H0.out | exact H1.out | exact H2.out | exact H3'.out | exact H4.out) (fail)
       go_wp2_with fail
       go_roundw
       case rel =>
        refine ⟨j + 1, by omega, by go_num, ?_, HT2.out.trans HT4.out.undrew⟩
        rw [tellIn_step _ _ _ _ _ j (ya : Int) (by rw [List.getElem?_take_of_lt hjl]; exact HY.out), if_pos (by rw [hz0]; simp)]; exact HP.out
       case measure => simp [intOf]; omega
      ·have hyb : ((ya : Int) == z) = false := by simp [hyz]
       go_wp2_with fail
       go_roundw
       case rel =>
        refine ⟨j + 1, by omega, by go_num, ?_, HT2.out⟩
        rw [tellIn_step _ _ _ _ _ j (ya : Int) (by rw [List.getElem?_take_of_lt hjl]; exact HY.out), if_neg (by rw [hz0, hyb]; simp)]; exact HM2.out
       case measure => simp [intOf]; omega
     ·obtain ⟨v1, s1, w1, hr1, hs1, hg1, hz1⟩ := IMap.entry (P := Tryz.prog) (IMap.drew (HM2.out.maps xa ra HRA.out)) Tryz.underlying76 Tryz.underlying3 (by kernel_rfl) (ya : Int)
      obtain ⟨w2, hr2, hm2, hg2, hz2⟩ := IMapS.store (P := Tryz.prog) hs1 76 1
      obtain ⟨v3, s3, w3, hr3, hs3, hg3, hz3⟩ := IMap.entry (P := Tryz.prog) (IMap.grown (IMap.grown (IMap.drew (HM2.out.maps ya rb HRB.out)) hg1 (fun e => hne (by injection e with e; exact e.symm))) hg2 (fun e => hne (by injection e with e; exact e.symm))) Tryz.underlying76 Tryz.underlying3 (by kernel_rfl) (xa : Int)
      obtain ⟨w4, hr4, hm4, hg4, hz4⟩ := IMapS.store (P := Tryz.prog) hs3 76 1
      have t1 : Turned wr.drew w1 ro := Turned.of_grown hg1 (fun r e => by injection e with e; subst e; exact List.mem_of_getElem? HRA.out)
      have t2 := t1.trans (Turned.of_grown hg2 (fun r e => by injection e with e; subst e; exact List.mem_of_getElem? HRA.out))
      have t3 := t2.trans (Turned.of_grown hg3 (fun r e => by injection e with e; subst e; exact List.mem_of_getElem? HRB.out))
      have t4 := t3.trans (Turned.of_grown hg4 (fun r e => by injection e with e; subst e; exact List.mem_of_getElem? HRB.out))
      have hS0 : wr.drew.cell? ⟨b3, 0, none⟩ = some (.slice (some ⟨bo, 0, none⟩) ro.length ro.length) ∧ wr.drew.cell? ⟨bo, xa, none⟩ = some (.map (some ra)) ∧ wr.drew.cell? ⟨bo, ya, none⟩ = some (.map (some rb)) := ⟨f3, HM2.out.cellAt HRA.out, HM2.out.cellAt HRB.out⟩
      have k := fun {W : World} (t : Turned wr.drew W ro) => And.intro (HM2.out.drew.cell t hS0.1) (And.intro (HM2.out.drew.cell t hS0.2.1) (HM2.out.drew.cell t hS0.2.2))
      have hS1 := k t1
      have hS2 := k t2
      have hS3 := k t3
      have hS4 := k t4
      have H0 := Lib.hid hS0; have H1 := Lib.hid hS1; have H2 := Lib.hid hS2; have H3' := Lib.hid hS3; have H4 := Lib.hid hS4; have HT4 := Lib.hid t4
      have HP : Hid (MRow w4 bo ro (both (tellIn true (l.getD 0 0) xa (tellTo true l R k0) ((l.take k0).take j)) xa ya)) := Lib.hid (HM2.out.drew.put2 HRA.out HRB.out hxy
       (by have := IMap.grown (IMap.grown hm2 hg3 (fun e => hne (by injection e with e))) hg4 (fun e => hne (by injection e with e)); rwa [FMap.put_put, setF_put] at this)
       (by have := hm4; rwa [FMap.put_put, setF_put] at this)
       (fun q hq n1 n2 => by
        have a1 := hg1.block q hq (fun e => n1 (by injection e with e))
        have a2 := hg2.block q (by omega) (fun e => n1 (by injection e with e))
        have a3 := hg3.block q (by omega) (fun e => n2 (by injection e with e))
        have a4 := hg4.block q (by omega) (fun e => n2 (by injection e with e))
        exact a4.trans (a3.trans (a2.trans a1))))
      clear hs1 hs3 hm2 hm4 hg1 hg2 hg3 hg4 t1 t2 t3 t4 hS0 hS1 hS2 hS3 hS4 k hz1 hz2 hz3 hz4
      go_upto_region 7 with fail
      go_region_held3 (fun W => W.cell? ⟨b3, 0, none⟩ = some (.slice (some ⟨bo, 0, none⟩) ro.length ro.length) ∧ W.cell? ⟨bo, xa, none⟩ = some (.map (some ra)) ∧ W.cell? ⟨bo, ya, none⟩ = some (.map (some rb))) (first | exact H0.out | exact H1.out | exact H2.out | exact H3'.out | exact H4.out) (fail)
      go_wp2_with fail
      go_roundw
      case rel =>
       refine ⟨j + 1, by omega, by go_num, ?_, HT2.out.trans HT4.out.undrew⟩
       rw [tellIn_step _ _ _ _ _ j (ya : Int) (by rw [List.getElem?_take_of_lt hjl]; exact HY.out), if_pos (by simp)]; exact HP.out
      case measure => simp [intOf]; omega
    ·go_wp2_with fail
     go_roundw
     case rel =>
      refine ⟨k0 + 1, by omega, by go_num, ?_, HT2.out⟩
      rw [tellTo_step whole l R k0 x HX.out]
      have := HM2.out
      rwa [List.take_of_length_le (by rw [List.length_take]; omega)] at this
     case measure => simp [intOf]; omega
  ·go_wp2_with fail
   go_end0
   refine ⟨rfl, ?_, HT.out⟩
   have := HMk.out
   rwa [show k = l.length from by omega] at this
end Go.Proofs.YtkmfdiboekoioaaGreat

/- What alloc.spots calls: is a node there; the list put into a set; a list cloned; is a number in a list. Conditions: what each needs of memory. -/
namespace Go.Proofs.YtkmfdiboekoioaaGreat
open Go.RowKit

theorem there_any (w : World) (bx : Nat) (n : Int) (An : Option Addr) (N cn : Nat) (hbox : w.cell? ⟨bx, 3, none⟩ = some (.slice An N cn)) (t : Bool) (ht : t = true ↔ 0 ≤ n ∧ n < N) :
  Calls Tryz.prog 117 #[.int .i64 n, .pointer (some ⟨bx, 0, none⟩)] w (fun e w' => e = .returned (.bool t) ∧ w' = w) := by
 by_cases h0 : 0 ≤ n
 ·by_cases h1 : n < (N : Int)
  ·obtain rfl : t = true := ht.2 ⟨h0, h1⟩
   clear ht
   go_enter Tryz.func117, Tryz.ntmps117
   go_wp2_with fail
   go_ret
   exact ⟨rfl, rfl⟩
  ·obtain rfl : t = false := Bool.eq_false_iff.2 fun h => h1 (ht.1 h).2
   clear ht
   go_enter Tryz.func117, Tryz.ntmps117
   go_wp2_with fail
   go_ret
   exact ⟨rfl, rfl⟩
 ·obtain rfl : t = false := Bool.eq_false_iff.2 fun h => h0 (ht.1 h).1
  clear ht
  go_enter Tryz.func117, Tryz.ntmps117
  go_wp2_with fail
  go_ret
  exact ⟨rfl, rfl⟩

set_option maxHeartbeats 1000000 in
theorem putn_any (w : World) (r : Nat) (p : ISet) (v : Value) (l : List Int) (bx bt bn : Nat) (An : Option Addr) (N cn : Nat) (hset : SetM w r p) (hl : IntsV w w.heap.size v l) (hbox : w.cell? ⟨bx, 3, none⟩ = some (.slice An N cn)) (hN : N ≤ lim)
  (hth : w.cell? ⟨bt, 0, none⟩ = some (.func (.func 117) #[] #[.pointer (some ⟨bx, 0, none⟩)])) (hnow : w.cell? ⟨bn, 0, none⟩ = some (.map (some r))) :
  Calls Tryz.prog 118 #[v, .pointer (some ⟨bt, 0, none⟩), .pointer (some ⟨bn, 0, none⟩)] w (PutIs r (p.add N l) w) := by
 have HL := Lib.hid hl
 obtain ⟨A, c, rfl, _hc, hlc, hl⟩ := hl
 have hlim : l.length ≤ 17592186044416 := by unfold lim at hlc; omega
 have hNl : N ≤ 17592186044416 := by unfold lim at hN; omega
 have HW := Lib.hid hl; clear hl hN hlc
 have HSet := Lib.hid hset; clear hset
 have HBox := Lib.hid hbox; have HTh := Lib.hid hth; have HNow := Lib.hid hnow; clear hbox hth hnow
 go_enter Tryz.func118, Tryz.ntmps118
 go_wp2_with fail
 go_loopw [8] (fun i wr => ∃ k : Nat, k ≤ l.length ∧ i = .int .i64 k ∧ SetM wr r (p.add N (l.take k)) ∧ w.grownBy wr (some r)) (fun i _ => l.length - (intOf i).toNat)
 case atStart => exact ⟨0, Nat.zero_le _, rfl, by rw [List.take_zero, add_nil]; exact HSet.out, World.grownBy.refl _ _⟩
 case round =>
  obtain ⟨k, hk, rfl, hs, hg⟩ := hrel
  have hbox := grown_cell HSet.out hs hg HBox.out
  have hth := grown_cell HSet.out hs hg HTh.out
  have hnow := grown_cell HSet.out hs hg HNow.out
  have HBoxr := Lib.hid hbox
  have HS := Lib.hid hs
  have HG := Lib.hid hg
  by_cases hlt : k < l.length
  ·obtain ⟨b, off, rfl, hbB, hp⟩ := HW.out (by omega)
   obtain ⟨x, hx⟩ := getE hlt
   have f0 := grown_cell HSet.out hs hg (hp k x hx)
   have HX := Lib.hid hx
   clear hp HW hx hs hg hbox
   by_cases h : 0 ≤ x ∧ x < (N : Int)
   ·obtain ⟨w1, hrun, hm1, hg1, hs1⟩ := IMap.update (P := Tryz.prog) HS.out Tryz.underlying76 Tryz.underlying3 x 1
    have HM := Lib.hid hm1; have HH := Lib.hid h
    clear hm1 hs1 h
    go_wp2_with (first | (go_at_call 117; refine (there_any wr bx x An N cn HBoxr.out true ⟨fun _ => HH.out, fun _ => rfl⟩).mono ?_; rintro e w' ⟨rfl, rfl⟩) | fail)
    go_roundw
    case rel => exact ⟨k + 1, by omega, by go_num, by rw [add_yes p N l k x HX.out HH.out.1 HH.out.2]; have := HM.out; rwa [setF_put] at this, HG.out.trans hg1⟩
    case measure => simp [intOf]; omega
   ·have HH := Lib.hid h
    clear h
    go_wp2_with (first | (go_at_call 117; refine (there_any wr bx x An N cn HBoxr.out false ⟨fun h => Bool.noConfusion h, fun h => absurd h HH.out⟩).mono ?_; rintro e w' ⟨rfl, rfl⟩) | fail)
    go_roundw
    case rel => exact ⟨k + 1, by omega, by go_num, by rw [add_no p N l k x HX.out HH.out]; exact HS.out, HG.out⟩
    case measure => simp [intOf]; omega
  ·go_wp2_with fail
   go_end0
   exact ⟨rfl, by have := HS.out; rwa [List.take_of_length_le (by omega)] at this, HG.out⟩

/-- slices.Index over ints. -/
theorem index_any (w : World) (v : Value) (l : List Int) (x : Int) (hl : IntsV w w.heap.size v l) :
  Calls Tryz.prog 134 #[v, .int .i64 x] w (fun e w' => (∃ k : Int, e = .returned (.int .i64 k) ∧ (0 ≤ k ↔ x ∈ l) ∧ -1 ≤ k) ∧ w' = w) := by
 obtain ⟨A, c, rfl, _hc, hlc, hl⟩ := hl
 have hlim : l.length ≤ 17592186044416 := by unfold lim at hlc; omega
 have HW := Lib.hid hl; clear hl hlc
 go_enter Tryz.func134, Tryz.ntmps134
 go_wp2_with fail
 go_loopw [8] (fun i wr => ∃ k : Nat, k ≤ l.length ∧ i = .int .i64 k ∧ wr = w ∧ x ∉ l.take k) (fun i _ => l.length - (intOf i).toNat)
 case atStart => exact ⟨0, Nat.zero_le _, rfl, rfl, by simp⟩
 case round =>
  obtain ⟨k, hk, rfl, rfl, hno⟩ := hrel
  have HNo := Lib.hid hno; clear hno
  by_cases hlt : k < l.length
  ·obtain ⟨b, off, rfl, hbB, hp⟩ := HW.out (by omega)
   obtain ⟨y, hy⟩ := getE hlt
   have f0 := hp k y hy
   have HY := Lib.hid hy
   clear hp HW hy
   by_cases hxy : x = y
   ·subst hxy
    go_wp2_with fail
    go_ret
    exact ⟨⟨k, rfl, ⟨fun _ => List.mem_of_getElem? HY.out, fun _ => by omega⟩, by omega⟩, rfl⟩
   ·have h1 : (x == y) = false := by simp [hxy]
    have h2 : (y == x) = false := by simp; exact fun e => hxy e.symm
    have HXY := Lib.hid hxy; clear hxy
    go_wp2_with fail
    go_roundw
    case rel => exact ⟨k + 1, by omega, by go_num, (by first | rfl | trivial), by rw [List.take_add_one, HY.out]; simp only [Option.toList_some, List.mem_append, List.mem_singleton, not_or]; exact ⟨HNo.out, HXY.out⟩⟩
    case measure => simp [intOf]; omega
  ·go_wp2_with fail
   go_ret
   refine ⟨⟨-1, rfl, ⟨fun h => by omega, fun h => ?_⟩, by omega⟩, rfl⟩
   exact absurd (by rw [List.take_of_length_le (by omega)]; exact h) HNo.out

theorem contains_any (w : World) (v : Value) (l : List Int) (x : Int) (hl : IntsV w w.heap.size v l) (t : Bool) (ht : t = true ↔ x ∈ l) :
  Calls Tryz.prog 90 #[v, .int .i64 x] w (fun e w' => e = .returned (.bool t) ∧ w' = w) := by
 obtain ⟨A, c, rfl, _hc, hlc, _⟩ := id hl
 have HL := Lib.hid hl; clear hl hlc
 by_cases hx : x ∈ l
 ·obtain rfl : t = true := ht.2 hx
  have HX := Lib.hid hx; clear hx ht
  go_enter Tryz.func90, Tryz.ntmps90
  go_wp2_with (first | (go_at_call 134; refine (index_any w _ l x HL.out).mono ?_; rintro e w' ⟨⟨k, rfl, hk, h1⟩, rfl⟩; have hk0 : 0 ≤ k := hk.2 HX.out; clear hk) | fail)
  go_ret
  exact ⟨by simp [hk0], rfl⟩
 ·obtain rfl : t = false := Bool.eq_false_iff.2 fun h => hx (ht.1 h)
  have HX := Lib.hid hx; clear hx ht
  go_enter Tryz.func90, Tryz.ntmps90
  go_wp2_with (first | (go_at_call 134; refine (index_any w _ l x HL.out).mono ?_; rintro e w' ⟨⟨k, rfl, hk, h1⟩, rfl⟩; obtain rfl : k = -1 := (by have : ¬ 0 ≤ k := fun h => HX.out (hk.1 h); omega); clear hk h1) | fail)
  go_ret
  exact ⟨rfl, rfl⟩

theorem sliceNil1 (a : Addr) (n c : Nat) (W : World) : (binOp .eql 34 (.slice (some a) n c) (.slice none 0 0)).run Tryz.prog W = .ok (.bool false) W := by kernel_rfl
end Go.Proofs.YtkmfdiboekoioaaGreat

/- What meets what, as a reckoning over sets: a block gone through from its end; what is told at each place. No condition. -/
namespace Go.Proofs.YtkmfdiboekoioaaGreat
open Go.RowKit

/-- One node with each of a set; all of a list with one another. -/
def star (R : Meets) (n : Int) (p : ISet) : Meets := fun x y => R x y || (x == n && p y) || (y == n && p x)
def clique (R : Meets) (l : List Int) : Meets := fun x y => R x y || (l.contains x && l.contains y && !(x == y))

theorem tellIn_false (l0 a : Int) (R : Meets) : ∀ (bs : List Int), bs.Nodup → tellIn false l0 a R bs = if l0 ∈ bs then both R a l0 else R
 | [], _ => by simp [tellIn]
 | b :: bs, hn => by
  obtain ⟨h1, h2⟩ := List.nodup_cons.1 hn
  have ih := fun R => tellIn_false l0 a R bs h2
  unfold tellIn at ih ⊢
  rw [List.foldl_cons, ih]
  by_cases e : b = l0
  ·subst e
   simp [h1]
  ·have e' : (b == l0) = false := by simp [e]
   have e2 : ¬ l0 = b := fun h => e h.symm
   simp [e', e2]
theorem tellIn_true (l0 a : Int) : ∀ (bs : List Int) (R : Meets), tellIn true l0 a R bs = fun x y => R x y || (x == a && bs.contains y) || (y == a && bs.contains x)
 | [], R => by funext x y; simp [tellIn]
 | b :: bs, R => by
  have ih := tellIn_true l0 a bs (both R a b)
  unfold tellIn at ih ⊢
  rw [List.foldl_cons]
  simp only [Bool.true_or, if_true] at ih ⊢
  rw [ih]
  funext x y
  simp only [both, List.contains_cons]
  cases R x y <;> cases x == a <;> cases y == a <;> cases x == b <;> cases y == b <;> cases bs.contains x <;> cases bs.contains y <;> rfl

theorem tellTo_false (n : Int) (l : List Int) (R : Meets) (hn : (n :: l).Nodup) : ∀ k, k ≤ l.length → tellTo false (n :: l) R (k + 1) = star R n (fun y => (l.take k).contains y)
 | 0, _ => by
  funext x y
  simp [tellTo, star, List.range_succ, tellIn]
 | k + 1, hk => by
  obtain ⟨a, ha⟩ := getE (l := l) (k := k) (by omega)
  have ha' : (n :: l)[k + 1]? = some a := by simpa using ha
  rw [tellTo_step false (n :: l) R (k + 1) a ha', tellTo_false n l R hn k (by omega), tellIn_false _ _ _ _ (hn.sublist (List.take_sublist _ _))]
  have hm : (n :: l).getD 0 0 ∈ List.take (k + 1) (n :: l) := by simp
  rw [if_pos hm, List.take_add_one, ha]
  funext x y
  simp only [both, star, List.getD_cons_zero, Option.toList_some, List.contains_append, List.contains_cons, List.contains_nil, Bool.or_false]
  cases R x y <;> cases x == n <;> cases y == n <;> cases x == a <;> cases y == a <;> cases (l.take k).contains x <;> cases (l.take k).contains y <;> rfl
theorem tell_star (n : Int) (l : List Int) (R : Meets) (p : ISet) (hn : (n :: l).Nodup) (hp : ∀ x, x ∈ l ↔ p x = true) : tell false (n :: l) R = star R n p := by
 unfold tell
 rw [List.length_cons, tellTo_false n l R hn l.length (Nat.le_refl _), List.take_length]
 congr 1
 funext y
 rw [Bool.eq_iff_iff, List.contains_iff_mem]
 exact hp y
theorem tellTo_true (l : List Int) (R : Meets) (hn : l.Nodup) : ∀ k, k ≤ l.length → tellTo true l R k = clique R (l.take k)
 | 0, _ => by
  funext x y
  simp [tellTo, clique]
 | k + 1, hk => by
  obtain ⟨a, ha⟩ := getE (l := l) (k := k) (by omega)
  rw [tellTo_step true l R k a ha, tellTo_true l R hn k (by omega), tellIn_true, List.take_add_one, ha]
  have hna : (l.take k).contains a = false := by
   rw [Bool.eq_false_iff, Ne, List.contains_iff_mem]
   intro hm
   obtain ⟨i, hi⟩ := List.mem_iff_getElem?.1 hm
   rw [List.getElem?_take] at hi
   split at hi
   ·rename_i hik
    have := nodup_inj hn hi ha
    omega
   ·cases hi
  funext x y
  simp only [clique, Option.toList_some, List.contains_append, List.contains_cons, List.contains_nil, Bool.or_false]
  by_cases hxa : x = a
  ·subst hxa
   by_cases hya : y = x
   ·subst hya; rw [hna]; simp
   ·have h1 : (y == x) = false := by simp [hya]
    have h2 : (x == y) = false := by simp; exact fun e => hya e.symm
    rw [hna, h1, h2]; simp
  ·have h1 : (x == a) = false := by simp [hxa]
   by_cases hya : y = a
   ·subst hya
    rw [hna, h1]; simp
   ·have h2 : (y == a) = false := by simp [hya]
    rw [h1, h2]; simp
theorem tell_clique (l : List Int) (R : Meets) (hn : l.Nodup) : tell true l R = clique R l := by
 unfold tell
 rw [tellTo_true l R hn l.length (Nat.le_refl _), List.take_length]

/-- Where one stands in a block: what is live there, the phis so far, what meets. -/
structure Spot where
 now : ISet
 phis : List Int
 meet : Meets
def spotStep (g : GraphP) (s : Spot) (n : Int) : Spot := match nodeAt g n with
 | none => s
 | some y => if y.op = 2 then ⟨s.now.del n, if n ∈ s.phis then s.phis else s.phis ++ [n], s.meet⟩
  else ⟨((s.now.del n).add g.nodes.length y.args).add g.nodes.length (slotsOf g y.state), s.phis, star s.meet n (s.now.del n)⟩
theorem spotStep_none {g : GraphP} {s : Spot} {n : Int} (h : nodeAt g n = none) : spotStep g s n = s := by unfold spotStep; rw [h]
theorem spotStep_phi {g : GraphP} {s : Spot} {n : Int} {y : NodeP} (h : nodeAt g n = some y) (ho : y.op = 2) : spotStep g s n = ⟨s.now.del n, if n ∈ s.phis then s.phis else s.phis ++ [n], s.meet⟩ := by unfold spotStep; rw [h]; simp only [if_pos ho]
theorem spotStep_other {g : GraphP} {s : Spot} {n : Int} {y : NodeP} (h : nodeAt g n = some y) (ho : y.op ≠ 2) : spotStep g s n = ⟨((s.now.del n).add g.nodes.length y.args).add g.nodes.length (slotsOf g y.state), s.phis, star s.meet n (s.now.del n)⟩ := by unfold spotStep; rw [h]; simp only [if_neg ho]
def spotFirst (g : GraphP) (I O : Sets) (b : Nat) (x : BlockP) (R : Meets) : Spot :=
 ⟨((ISet.empty.add g.nodes.length (listOf g.nodes.length (O.at_ b))).add g.nodes.length x.args).add g.nodes.length (slotsOf g x.state), listOf g.nodes.length (I.at_ b), R⟩
/-- A block's nodes, as they came from the end. -/
def spotTo (g : GraphP) (I O : Sets) (b : Nat) (x : BlockP) (R : Meets) (pre : List Int) : Spot := pre.foldl (spotStep g) (spotFirst g I O b x R)
theorem spotTo_snoc (g : GraphP) (I O : Sets) (b : Nat) (x : BlockP) (R : Meets) (pre : List Int) (n : Int) : spotTo g I O b x R (pre ++ [n]) = spotStep g (spotTo g I O b x R pre) n := by
 unfold spotTo; rw [List.foldl_append]; rfl
def meetBlock (g : GraphP) (I O : Sets) (b : Nat) (x : BlockP) (R : Meets) : Meets :=
 clique (spotTo g I O b x R x.nodes.reverse).meet (spotTo g I O b x R x.nodes.reverse).phis
def meetTo (g : GraphP) (I O : Sets) (k : Nat) : Meets := (List.range k).foldl (fun R b => match g.blocks[b]? with | some x => meetBlock g I O b x R | none => R) (fun _ _ => false)
def meetAll (g : GraphP) (I O : Sets) : Meets := meetTo g I O g.blocks.length
theorem meetTo_step (g : GraphP) (I O : Sets) (k : Nat) (x : BlockP) (h : g.blocks[k]? = some x) : meetTo g I O (k + 1) = meetBlock g I O k x (meetTo g I O k) := by
 unfold meetTo
 rw [List.range_succ, List.foldl_append]
 simp only [List.foldl_cons, List.foldl_nil, h]
theorem nodeAt_range {g : GraphP} {n : Int} : (nodeAt g n).isSome = true ↔ 0 ≤ n ∧ n < (g.nodes.length : Int) := by
 unfold nodeAt
 by_cases h : n < 0
 ·rw [if_pos h]; simp; omega
 ·rw [if_neg h]
  obtain ⟨k, rfl⟩ := Int.eq_ofNat_of_zero_le (show 0 ≤ n by omega)
  rw [Int.toNat_natCast]
  simp
/-- What holds of a place: all within the nodes, the phis once each. -/
structure SpotOk (g : GraphP) (s : Spot) : Prop where
 now : Bounded g.nodes.length s.now
 one : s.phis.Nodup
 phis : ∀ x ∈ s.phis, 0 ≤ x ∧ x < (g.nodes.length : Int)
theorem SpotOk.step {g : GraphP} {s : Spot} (h : SpotOk g s) (n : Int) : SpotOk g (spotStep g s n) := by
 cases hn : nodeAt g n with
 | none => rw [spotStep_none hn]; exact h
 | some y =>
  have hr := nodeAt_range.1 (show (nodeAt g n).isSome = true by rw [hn]; rfl)
  by_cases ho : y.op = 2
  ·rw [spotStep_phi hn ho]
   refine ⟨del_bounded n h.now, ?_, fun x hx => ?_⟩
   ·show (if n ∈ s.phis then s.phis else s.phis ++ [n]).Nodup
    split
    ·exact h.one
    ·rename_i hm
     rw [List.nodup_append]
     refine ⟨h.one, by simp, fun a ha b hb => ?_⟩
     simp only [List.mem_singleton] at hb
     subst hb
     exact fun e => hm (e ▸ ha)
   ·have hx' : x ∈ (if n ∈ s.phis then s.phis else s.phis ++ [n]) := hx
    split at hx'
    ·exact h.phis x hx'
    ·rcases List.mem_append.1 hx' with hx' | hx'
     ·exact h.phis x hx'
     ·simp only [List.mem_singleton] at hx'; subst hx'; exact hr
  ·rw [spotStep_other hn ho]
   exact ⟨add_bounded _ (add_bounded _ (del_bounded n h.now)), h.one, h.phis⟩
theorem SpotOk.first {g : GraphP} {I O : Sets} (hI : ∀ b, Bounded g.nodes.length (I.at_ b)) (b : Nat) (x : BlockP) (R : Meets) : SpotOk g (spotFirst g I O b x R) :=
 ⟨add_bounded _ (add_bounded _ (add_bounded _ (empty_bounded _))), listOf_nodup _ _, fun x hx => (hI b) x ((mem_listOf (hI b) x).1 hx)⟩
theorem SpotOk.to {g : GraphP} {I O : Sets} (hI : ∀ b, Bounded g.nodes.length (I.at_ b)) (b : Nat) (x : BlockP) (R : Meets) (pre : List Int) : SpotOk g (spotTo g I O b x R pre) := by
 unfold spotTo
 have : ∀ (l : List Int) (s : Spot), SpotOk g s → SpotOk g (l.foldl (spotStep g) s) := fun l => by
  induction l with
  | nil => exact fun s h => h
  | cons n l ih => exact fun s h => ih _ (h.step n)
 exact this _ _ (SpotOk.first hI b x R)
/-- The phis are at most as many as the nodes. -/
theorem bounded_len {N : Nat} {l : List Int} (h1 : l.Nodup) (h2 : ∀ x ∈ l, 0 ≤ x ∧ x < (N : Int)) : l.length ≤ N := by
 have := nodup_le l ((List.range N).map (fun (i : Nat) => (i : Int))) h1 (fun x hx => by
  obtain ⟨a, b⟩ := h2 x hx
  obtain ⟨k, rfl⟩ := Int.eq_ofNat_of_zero_le a
  exact List.mem_map.2 ⟨k, List.mem_range.2 (by omega), rfl⟩)
 simpa using this
end Go.Proofs.YtkmfdiboekoioaaGreat
