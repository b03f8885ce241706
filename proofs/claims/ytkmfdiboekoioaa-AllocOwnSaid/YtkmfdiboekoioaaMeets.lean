/- The walk of alloc.meets. Conditions: a graph that is small. -/
import Derived.Test.YtkmfdiboekoioaaSpots
import Derived.Laws.MakeOwn
namespace Go.Proofs.Ytkmfdiboekoioaa
open Go.RowKit

/-- What meets is among the nodes. -/
def MeetIn (N : Nat) (R : Meets) : Prop := ∀ x y, R x y = true → (0 ≤ x ∧ x < (N : Int)) ∧ (0 ≤ y ∧ y < (N : Int))
theorem MeetIn.star {N : Nat} {R : Meets} (h : MeetIn N R) {n : Int} {p : ISet} (hn : 0 ≤ n ∧ n < (N : Int)) (hp : Bounded N p) : MeetIn N (star R n p) := fun x y hxy => by
  simp only [Go.Proofs.Ytkmfdiboekoioaa.star, Bool.or_eq_true, Bool.and_eq_true, beq_iff_eq] at hxy
  rcases hxy with (hxy | ⟨rfl, hy⟩) | ⟨rfl, hx⟩
  · exact h x y hxy
  · exact ⟨hn, hp y hy⟩
  · exact ⟨hp x hx, hn⟩
theorem MeetIn.clique {N : Nat} {R : Meets} (h : MeetIn N R) {l : List Int} (hl : ∀ x ∈ l, 0 ≤ x ∧ x < (N : Int)) : MeetIn N (clique R l) := fun x y hxy => by
  simp only [Go.Proofs.Ytkmfdiboekoioaa.clique, Bool.or_eq_true, Bool.and_eq_true, List.contains_iff_mem] at hxy
  rcases hxy with hxy | ⟨⟨hx, hy⟩, _⟩
  · exact h x y hxy
  · exact ⟨hl x hx, hl y hy⟩
theorem MeetIn.step {g : GraphP} {s : Spot} (h : MeetIn g.nodes.length s.meet) (ok : SpotOk g s) (n : Int) : MeetIn g.nodes.length (spotStep g s n).meet := by
  cases hn : nodeAt g n with
  | none => rw [spotStep_none hn]; exact h
  | some y =>
    have hr := nodeAt_range.1 (show (nodeAt g n).isSome = true by rw [hn]; rfl)
    by_cases ho : y.op = 2
    · rw [spotStep_phi hn ho]; exact h
    · rw [spotStep_other hn ho]; exact h.star hr (del_bounded n ok.now)
theorem meetIn_to {g : GraphP} {I O : Sets} (hI : ∀ b, Bounded g.nodes.length (I.at_ b)) (b : Nat) (x : BlockP) {R : Meets} (hR : MeetIn g.nodes.length R) (pre : List Int) : MeetIn g.nodes.length (spotTo g I O b x R pre).meet := by
  unfold spotTo
  have : ∀ (l : List Int) (s : Spot), SpotOk g s → MeetIn g.nodes.length s.meet → MeetIn g.nodes.length (l.foldl (spotStep g) s).meet := fun l => by
    induction l with
    | nil => exact fun s _ h => h
    | cons n l ih => exact fun s ok h => ih _ (ok.step n) (h.step ok n)
  exact this _ _ (SpotOk.first hI b x R) hR
theorem meetIn_all {g : GraphP} {I O : Sets} (hI : ∀ b, Bounded g.nodes.length (I.at_ b)) : ∀ k, MeetIn g.nodes.length (meetTo g I O k)
  | 0 => fun x y h => by cases h
  | k + 1 => by
    cases hx : g.blocks[k]? with
    | none =>
      have : meetTo g I O (k + 1) = meetTo g I O k := by
        unfold meetTo
        rw [List.range_succ, List.foldl_append]
        simp only [List.foldl_cons, List.foldl_nil, hx]
      rw [this]; exact meetIn_all hI k
    | some x =>
      rw [meetTo_step g I O k x hx]
      exact (meetIn_to hI k x (meetIn_all hI k) _).clique (SpotOk.to (O := O) hI k x _ _).phis

theorem map_info : (Try.prog.info? 40).map (fun i => (i.zero, i.size, i.bytes)) = some (some (.map none), 1, 8) := by kernel_rfl
/-- The first maps of a row are made. -/
structure MPart (w : World) (bo N : Nat) (ro : List Nat) : Prop where
  row : Blk w bo 40 ((ro.map (fun r => Value.map (some r)) ++ List.replicate (N - ro.length) (Value.map none)).toArray)
  one : ro.Nodup
  maps : ∀ r ∈ ro, SetM w r (fun _ => false)
theorem MPart.put {w : World} {bo N : Nat} {ro : List Nat} (h : MPart w bo N ro) (hlt : ro.length < N) (hw : bo < w.heap.size) :
    MPart ((w.alloc (.map #[] 0)).setCell ⟨bo, ro.length, none⟩ (.map (some w.heap.size))) bo N (ro ++ [w.heap.size]) := by
  have hn : w.heap.size ∉ ro := fun hm => Nat.lt_irrefl _ (h.maps _ hm).lt
  refine ⟨?_, ?_, fun r hr => ?_⟩
  · have := (h.row.alloc (.map #[] 0)).set_ ro.length (.map (some w.heap.size))
    have e : N - ro.length = (N - (ro.length + 1)) + 1 := by omega
    rw [e, List.replicate_succ] at this
    have e2 : ((List.map (fun r => Value.map (some r)) ro ++ Value.map none :: List.replicate (N - (ro.length + 1)) (Value.map none)).toArray).setIfInBounds ro.length (.map (some w.heap.size)) =
        ((ro ++ [w.heap.size]).map (fun r => Value.map (some r)) ++ List.replicate (N - (ro ++ [w.heap.size]).length) (Value.map none)).toArray := by
      simp
    rw [e2] at this
    exact this
  · rw [List.nodup_append]
    exact ⟨h.one, by simp, fun a ha b hb => by simp only [List.mem_singleton] at hb; subst hb; exact fun e => hn (e ▸ ha)⟩
  · rcases List.mem_append.1 hr with hr | hr
    · exact IMap.setCell ((h.maps r hr).alloc _) _ _
    · simp only [List.mem_singleton] at hr
      subst hr
      exact IMap.setCell (IMap.made w) _ _
theorem MPart.all {w : World} {bo N : Nat} {ro : List Nat} (h : MPart w bo N ro) (hN : ro.length = N) : MRow w bo ro (fun _ _ => false) :=
  ⟨by have := h.row; rwa [hN, Nat.sub_self, List.replicate_zero, List.append_nil] at this, h.one, fun j r hj => h.maps r (List.mem_of_getElem? hj)⟩

def MeetsIs (g : GraphP) (w : World) (e : Ending) (w' : World) : Prop :=
  ∃ (bo : Nat) (ro : List Nat) (I O : Sets), e = .returned (.slice (some ⟨bo, 0, none⟩) g.nodes.length g.nodes.length) ∧ ro.length = g.nodes.length ∧ LiveIs g I O ∧ MRow w' bo ro (meetAll g I O) ∧ Below w.heap.size w w'
theorem MPart.cellK {w : World} {bo N : Nat} {ro : List Nat} (h : MPart w bo N ro) (hlt : ro.length < N) : w.cell? ⟨bo, ro.length, none⟩ = some (.map none) := by
  rw [h.row.cell]
  simp only [List.getElem?_toArray]
  rw [List.getElem?_append_right (by simp)]
  simp only [List.length_map, Nat.sub_self]
  rw [List.getElem?_replicate, if_pos (by omega)]
theorem MPart.first {w : World} {bo N : Nat} (hb : Blk w bo 40 (madeCells #[.map none] N)) : MPart w bo N [] := by
  refine ⟨?_, by simp, fun r hr => by cases hr⟩
  have e : madeCells #[Value.map none] N = (List.map (fun r => Value.map (some r)) [] ++ List.replicate (N - List.length ([] : List Nat)) (Value.map none)).toArray := by
    apply Array.ext_getElem?
    intro i
    by_cases hi : i < N
    · simp [madeCells, hi, Nat.mod_one]
    · simp [madeCells, hi]
  rw [e] at hb
  exact hb
/-- The memory of alloc.meets while the maps are made. -/
structure MMem (w : World) (g : GraphP) (xv : GVals) (wr : World) (ro : List Nat) : Prop where
  part : MPart wr (w.heap.size + 1) g.nodes.length ro
  box : Blk wr w.heap.size 26 (gbox g xv)
  out : Blk wr (w.heap.size + 2) 38 #[.slice (some ⟨w.heap.size + 1, 0, none⟩) g.nodes.length g.nodes.length]
  low : Below w.heap.size w wr
  new : ∀ r ∈ ro, w.heap.size ≤ r
theorem MMem.put {w : World} {g : GraphP} {xv : GVals} {wr : World} {ro : List Nat} (h : MMem w g xv wr ro) (hlt : ro.length < g.nodes.length) :
    MMem w g xv ((wr.alloc (.map #[] 0)).setCell ⟨w.heap.size + 1, ro.length, none⟩ (.map (some wr.heap.size))) (ro ++ [wr.heap.size]) :=
  ⟨h.part.put hlt h.part.row.lt, (h.box.alloc _).far (p := ⟨w.heap.size + 1, ro.length, none⟩) (show w.heap.size ≠ w.heap.size + 1 by omega) _, (h.out.alloc _).far (p := ⟨w.heap.size + 1, ro.length, none⟩) (show w.heap.size + 2 ≠ w.heap.size + 1 by omega) _,
    (h.low.alloc h.low.size _).setCell (p := ⟨w.heap.size + 1, ro.length, none⟩) (show w.heap.size ≤ w.heap.size + 1 by omega) _, fun r hr => by
      rcases List.mem_append.1 hr with hr | hr
      · exact h.new r hr
      · simp only [List.mem_singleton] at hr; subst hr; exact h.low.size⟩
set_option maxRecDepth 100000 in
set_option maxHeartbeats 4000000 in
theorem meets_any (w : World) (xv : GVals) (g : GraphP) (hg : GraphV w w.heap.size xv g) (hs : Small g) : Calls Try.prog 12 #[gval g xv] w (MeetsIs g w) := by
  obtain ⟨vn, vb, vs⟩ := xv
  have HG := Lib.hid hg
  obtain ⟨hn, _, _⟩ := hg
  simp only at hn
  obtain ⟨An, cn, rfl, hcn, hln, hn⟩ := hn
  clear hn
  obtain ⟨l1, l2, l3⟩ := hs.lens
  obtain ⟨i0, hi, hz0, hz1, hz2⟩ := info_parts map_info
  have hmk := fun W : World => run_make (P := Try.prog) W 38 40 i0 (.map none) Try.underlying38 hi hz0 .i64 .i64 (g.nodes.length : Int) (g.nodes.length : Int) (by omega) (Int.le_refl _) (by rw [hz2]; omega) (by omega)
  simp only [hz1, Int.toNat_natCast, Value.cells, Nat.mul_one] at hmk
  have hmm := @run_makeMap Try.prog
  unfold gval
  go_enter Try.func12, Try.ntmps12
  go_wp2_with fail
  go_loopw [11] (fun i wr => ∃ ro : List Nat, i = .int .i64 (ro.length : Int) ∧ ro.length ≤ g.nodes.length ∧ Hid (MMem w g ⟨.slice An g.nodes.length cn, vb, vs⟩ wr ro)) (fun i _ => g.nodes.length - (intOf i).toNat)
  case atStart =>
    refine ⟨[], rfl, Nat.zero_le _, Lib.hid ⟨?_, ((Blk.new w _ _).alloc _).alloc _, ?_, (((Below.refl _ _).alloc (Nat.le_refl _) _).alloc (by simp) _).alloc (by simp; omega) _, fun r hr => by cases hr⟩⟩
    · refine MPart.first ?_
      have := (Blk.new (w.alloc (.cells (gbox g ⟨.slice An g.nodes.length cn, vb, vs⟩) 26)) 40 (madeCells #[.map none] g.nodes.length)).alloc (.cells #[.slice (some ⟨w.heap.size + 1, 0, none⟩) g.nodes.length g.nodes.length] 38)
      rw [World.size_alloc] at this
      exact this
    · have := Blk.new ((w.alloc (.cells (gbox g ⟨.slice An g.nodes.length cn, vb, vs⟩) 26)).alloc (.cells (madeCells #[.map none] g.nodes.length) 40)) 38 #[.slice (some ⟨w.heap.size + 1, 0, none⟩) g.nodes.length g.nodes.length]
      rw [World.size_alloc, World.size_alloc] at this
      exact this
  case round =>
    obtain ⟨ro, rfl, hle, HM⟩ := hrel
    clear hmk
    have o0 : wr.cell? ⟨w.heap.size + 2, 0, none⟩ = some (.slice (some ⟨w.heap.size + 1, 0, none⟩) g.nodes.length g.nodes.length) := HM.out.out.cell 0
    by_cases hlt : ro.length < g.nodes.length
    · have o1 := HM.out.part.cellK hlt
      have o2 := HM.out.part.row.frozen ro.length
      have o3 := HM.out.part.row.lt
      go_wp2_with fail
      go_roundw
      case rel => exact ⟨ro ++ [wr.heap.size], by simp, by simp; omega, Lib.hid (by rw [← World.setCell_alloc_past _ _ _ _ HM.out.part.row.lt]; exact HM.out.put hlt)⟩
      case measure => simp [intOf]; omega
    · have HE := Lib.hid (show ro.length = g.nodes.length by omega)
      have q0 : wr.cell? ⟨w.heap.size, 0, none⟩ = some (.int .i64 g.fn) := HM.out.box.cell 0
      have q1 : wr.cell? ⟨w.heap.size, 1, none⟩ = some (.int .i64 g.pc) := HM.out.box.cell 1
      have q2 : wr.cell? ⟨w.heap.size, 2, none⟩ = some (.int .i64 g.slots) := HM.out.box.cell 2
      have q3 : wr.cell? ⟨w.heap.size, 3, none⟩ = some (.slice An g.nodes.length cn) := HM.out.box.cell 3
      have q4 : wr.cell? ⟨w.heap.size, 4, none⟩ = some vb := HM.out.box.cell 4
      have q5 : wr.cell? ⟨w.heap.size, 5, none⟩ = some vs := HM.out.box.cell 5
      go_wp2_with (go_at_call 19; refine (spots_any wr ⟨.slice An g.nodes.length cn, vb, vs⟩ g (w.heap.size + 1) (w.heap.size + 2) ro (HG.out.later HM.out.low (Nat.le_refl _)) hs (HM.out.part.all HE.out) (by have := HM.out.out; rwa [← HE.out] at this) HE.out.symm).mono ?_; rintro e w2 ⟨rfl, I, O, hL, hr2, ht2⟩; have HL := Lib.hid hL; have HR2 := Lib.hid hr2; have HT2 := Lib.hid ht2; have o4 := (HM.out.part.all HE.out).cell ht2 o0; clear hL hr2 ht2 o0 q0 q1 q2 q3 q4 q5)
      go_ret
      refine ⟨w.heap.size + 1, ro, I, O, rfl, HE.out, HL.out, HR2.out, HM.out.low.trans ?_⟩
      have t := HT2.out
      exact ⟨t.os, t.tape, t.output, t.size, fun k hk => t.block k (Nat.lt_of_lt_of_le hk HM.out.low.size) (fun hm => by
        have := HM.out.new k hm; omega)⟩
end Go.Proofs.Ytkmfdiboekoioaa
