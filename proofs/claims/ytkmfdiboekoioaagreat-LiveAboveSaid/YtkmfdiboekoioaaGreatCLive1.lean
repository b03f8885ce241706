/- The walks of the small functions of package live: the slots of a state, the putting of numbers into a set, the args of phis. Conditions: each slice within the reach of the model. -/
import Derived.Test.YtkmfdiboekoioaaGreatCSize
import Derived.Test.YtkmfdiboekoioaaGreatCMaps
import Derived.BigQuiet
import Derived.Deep.LoopGhost
set_option linter.unusedSimpArgs false
set_option linter.unusedVariables false
namespace Go.Proofs.YtkmfdiboekoioaaGreat
open Go.RowKit

def slotsOf (g : GraphP) (s : Int) : List Int := if s < 0 then [] else match g.states[s.toNat]? with | some x => x.slots | none => []
theorem slotsOf_some {g : GraphP} {k : Nat} {y : StateP} (h : g.states[k]? = some y) : slotsOf g (k : Int) = y.slots := by
  unfold slotsOf; rw [if_neg (by omega), Int.toNat_natCast, h]
theorem slotsOf_none {g : GraphP} {k : Nat} (h : g.states.length ≤ k) : slotsOf g (k : Int) = [] := by
  unfold slotsOf; rw [if_neg (by omega), Int.toNat_natCast, List.getElem?_eq_none h]
def SlotsIs (g : GraphP) (s : Int) (w : World) (e : Ending) (w' : World) : Prop := ∃ v, e = .returned v ∧ IntsV w' w.heap.size v (slotsOf g s) ∧ Below w.heap.size w w'

set_option maxHeartbeats 1000000 in
theorem slots_any (x : GVals) (g : GraphP) (s : Int) (w : World) (hg : GraphV w w.heap.size x g) : Calls Tryz.prog 54 #[gval g x, .int .i64 s] w (SlotsIs g s w) := by
  obtain ⟨vn, vb, vs⟩ := x
  obtain ⟨_, _, hs⟩ := hg
  obtain ⟨A, c, rfl, _hc, hl, hs⟩ := hs
  have hlim : g.states.length ≤ 17592186044416 := by unfold lim at hl; omega
  have HS := Lib.hid hs; clear hs hl
  unfold gval
  dsimp only
  by_cases h0 : s < 0
  · have hfin : slotsOf g s = [] := by simp [slotsOf, h0]
    have HF := Lib.hid hfin; clear hfin
    go_enter Tryz.func54, Tryz.ntmps54
    go_wp2
    go_ret
    exact ⟨_, rfl, by rw [HF.out]; exact IntsV.nil _ _, (Below.refl _ _).alloc (Nat.le_refl _) _⟩
  · obtain ⟨k, rfl⟩ := Int.eq_ofNat_of_zero_le (Int.not_lt.1 h0)
    by_cases h1 : k < g.states.length
    · obtain ⟨b, off, rfl, hbB, hp⟩ := HS.out (by omega)
      obtain ⟨y, hy⟩ := getE h1
      have b1 : Below w.heap.size w (w.alloc (.cells #[.int .i64 g.fn, .int .i64 g.pc, .int .i64 g.slots, vn, vb, .slice (some ⟨b, off, none⟩) g.states.length c] 28)) := (Below.refl _ _).alloc (Nat.le_refl _) _
      obtain ⟨f0, ⟨v1, f1, hv1⟩⟩ := (hp k y hy).keep (Same.of_below b1) hbB
      have hfin := slotsOf_some hy
      have HF := Lib.hid hfin; clear hfin
      have HV := Lib.hid hv1
      obtain ⟨A1, c1, rfl, _, _, _⟩ := hv1
      clear hp HS hy
      go_enter Tryz.func54, Tryz.ntmps54
      go_wp2
      go_ret
      exact ⟨_, rfl, by rw [HF.out]; exact HV.out, b1⟩
    · have hfin := slotsOf_none (g := g) (k := k) (by omega)
      have HF := Lib.hid hfin; clear hfin
      go_enter Tryz.func54, Tryz.ntmps54
      go_wp2
      go_ret
      exact ⟨_, rfl, by rw [HF.out]; exact IntsV.nil _ _, (Below.refl _ _).alloc (Nat.le_refl _) _⟩

/-- A set of numbers as a map whose values are 1. -/
abbrev ISet := Int → Bool
def setF (p : ISet) : FMap := fun x => if p x then some 1 else none
def SetM (w : World) (r : Nat) (p : ISet) : Prop := IMap w r (setF p)
def ISet.add (p : ISet) (N : Nat) (l : List Int) : ISet := fun x => p x || (decide (0 ≤ x ∧ x < N) && l.contains x)
theorem setF_put (p : ISet) (x : Int) : (setF p).put x 1 = setF (fun z => p z || z == x) := by
  funext z
  simp only [FMap.put, setF]
  by_cases h : z = x
  · simp [h]
  · simp [h]
theorem add_yes (p : ISet) (N : Nat) (l : List Int) (k : Nat) (x : Int) (hx : l[k]? = some x) (h0 : 0 ≤ x) (h1 : x < N) : p.add N (l.take (k + 1)) = fun z => p.add N (l.take k) z || z == x := by
  funext z
  rw [List.take_add_one, hx]
  simp only [ISet.add, List.contains_append]
  by_cases h : z = x
  · subst h; simp [h0, h1]
  · have hb : (z == x) = false := by simp [h]
    simp [hb, h]
theorem add_no (p : ISet) (N : Nat) (l : List Int) (k : Nat) (x : Int) (hx : l[k]? = some x) (h : ¬ (0 ≤ x ∧ x < N)) : p.add N (l.take (k + 1)) = p.add N (l.take k) := by
  funext z
  rw [List.take_add_one, hx]
  simp only [ISet.add, List.contains_append]
  by_cases q : z = x
  · subst q; simp only [decide_eq_false h, Bool.false_and]
  · have hb : (z == x) = false := by simp [q]
    simp [hb, q]
theorem add_nil (p : ISet) (N : Nat) : p.add N [] = p := by funext z; simp [ISet.add]

def PutIs (r : Nat) (q : ISet) (w : World) (e : Ending) (w' : World) : Prop := e = .returned (.tuple #[]) ∧ SetM w' r q ∧ w.grownBy w' (some r)

theorem grown_cell {w w' : World} {r : Nat} {p q : ISet} (h : SetM w r p) (h' : SetM w' r q) (hg : w.grownBy w' (some r)) {a : Addr} {v : Value} (hc : w.cell? a = some v) : w'.cell? a = some v :=
  (cell_mapturn h (.inr ⟨_, h'⟩) hg (World.block_lt_of_cell? w a hc)).trans hc
theorem grown_ints {w w' : World} {r : Nat} {p q : ISet} (h : SetM w r p) (h' : SetM w' r q) (hg : w.grownBy w' (some r)) {B : Nat} {v : Value} {l : List Int} (hB : B ≤ w.heap.size) (hl : IntsV w B v l) : IntsV w' B v l :=
  hl.keep fun _ ha => cell_mapturn h (.inr ⟨_, h'⟩) hg (by omega)

set_option maxHeartbeats 1000000 in
theorem put_any (w : World) (r : Nat) (p : ISet) (v : Value) (l : List Int) (bx : Nat) (An : Option Addr) (N cn : Nat) (hset : SetM w r p) (hl : IntsV w w.heap.size v l) (hbox : w.cell? ⟨bx, 3, none⟩ = some (.slice An N cn)) (hN : N ≤ lim) :
    Calls Tryz.prog 50 #[.map (some r), v, .pointer (some ⟨bx, 0, none⟩)] w (PutIs r (p.add N l) w) := by
  have HL := Lib.hid hl
  obtain ⟨A, c, rfl, _hc, hlc, hl⟩ := hl
  have hlim : l.length ≤ 17592186044416 := by unfold lim at hlc; omega
  have hNl : N ≤ 17592186044416 := by unfold lim at hN; omega
  have HW := Lib.hid hl; clear hl hN hlc
  have HSet := Lib.hid hset; clear hset
  have HBox := Lib.hid hbox; clear hbox
  go_enter Tryz.func50, Tryz.ntmps50
  go_wp2
  go_loopw [6, 9] (fun _ i wr => ∃ k : Nat, k ≤ l.length ∧ i = .int .i64 k ∧ SetM wr r (p.add N (l.take k)) ∧ w.grownBy wr (some r)) (fun _ i _ => l.length - (intOf i).toNat)
  case atStart => exact ⟨0, Nat.zero_le _, rfl, by rw [List.take_zero, add_nil]; exact HSet.out, World.grownBy.refl _ _⟩
  case round =>
    obtain ⟨k, hk, rfl, hs, hg⟩ := hrel
    have hbox := grown_cell HSet.out hs hg HBox.out
    have HS := Lib.hid hs
    have HG := Lib.hid hg
    by_cases hlt : k < l.length
    · obtain ⟨b, off, rfl, hbB, hp⟩ := HW.out (by omega)
      obtain ⟨x, hx⟩ := getE hlt
      have f0 := grown_cell HSet.out hs hg (hp k x hx)
      have HX := Lib.hid hx
      clear hp HW hx hs hg
      by_cases h0 : 0 ≤ x
      · by_cases h1 : x < (N : Int)
        · obtain ⟨w1, hrun, hm1, hg1, hs1⟩ := IMap.update (P := Tryz.prog) HS.out Tryz.underlying95 Tryz.underlying3 x 1
          have HM := Lib.hid hm1
          clear hm1 hs1
          go_wp2
          go_roundw
          case rel => exact ⟨k + 1, by omega, by go_num, by rw [add_yes p N l k x HX.out h0 h1]; have := HM.out; rwa [setF_put] at this, HG.out.trans hg1⟩
          case measure => simp [intOf]; omega
        · go_wp2
          go_roundw
          case rel => exact ⟨k + 1, by omega, by go_num, by rw [add_no p N l k x HX.out (by omega)]; exact HS.out, HG.out⟩
          case measure => simp [intOf]; omega
      · go_wp2
        go_roundw
        case rel => exact ⟨k + 1, by omega, by go_num, by rw [add_no p N l k x HX.out (by omega)]; exact HS.out, HG.out⟩
        case measure => simp [intOf]; omega
    · go_wp2
      go_end0
      exact ⟨rfl, by have := HS.out; rwa [List.take_of_length_le (by omega)] at this, HG.out⟩
end Go.Proofs.YtkmfdiboekoioaaGreat

/- The walk of the function that lists the args of phis that are for one block. Conditions: a graph that is small. -/
namespace Go.Proofs.YtkmfdiboekoioaaGreat
open Go.RowKit

/-- A row of the call's own that holds the integers l. -/
def OwnInts (w : World) (base : Nat) (v : Value) (l : List Int) : Prop := w.ownsRow base 3 1 v l.length (l.map (Value.int .i64))
theorem OwnInts.nil (w : World) (base : Nat) : OwnInts w base (.slice none 0 0) [] := World.ownsRow_nil w base _ _
theorem OwnInts.ints {w : World} {base : Nat} {v : Value} {l : List Int} (h : OwnInts w base v l) (hl : l.length ≤ lim) : IntsV w w.heap.size v l := by
  unfold OwnInts at h
  have hlt := h.lt
  rcases h.2 with ⟨hv, hx⟩ | ⟨g, cap, cur, rfl, hbase, hb, hnc, _⟩
  · have : l = [] := by simpa using hx
    subst this
    rw [hv]; exact IntsV.nil _ _
  · refine ⟨_, cap, rfl, hnc, hl, fun _ => ⟨g, 0, rfl, (hlt g rfl).2, fun j x hj => ?_⟩⟩
    have := h.cells (g := g) rfl j (.int .i64 x) (by simp [List.getElem?_map, hj])
    rw [Nat.zero_add]
    unfold Addr.add at this
    split at this
    · rename_i q; rw [q]; exact this
    · simpa using this
theorem OwnInts.mono {w : World} {base base' : Nat} {v : Value} {l : List Int} (h : OwnInts w base v l) (hb : base' ≤ base) : OwnInts w base' v l := by
  obtain ⟨h1, h2⟩ := h
  refine ⟨h1, ?_⟩
  rcases h2 with h2 | ⟨g, cap, cur, hv, hg, r⟩
  · exact .inl h2
  · exact .inr ⟨g, cap, cur, hv, by omega, r⟩
theorem OwnInts.snoc {w : World} {base : Nat} {v : Value} {l : List Int} {a : Int} (h : w.ownsRow base 3 1 v (l.length + 1) (l.map (Value.int .i64) ++ [.int .i64 a])) : OwnInts w base v (l ++ [a]) := by
  unfold OwnInts
  rw [List.length_append, List.map_append]
  exact h
theorem int_info : (Tryz.prog.info? 3).map (fun i => (i.zero, i.size, i.bytes)) = some (some (.int .i64 0), 1, 8) := by kernel_rfl

/-- A graph of so little that lengths add up to little. -/
def Small (g : GraphP) : Prop := graphSz g ≤ 5000
theorem sumSz_mem {α : Type} (f : α → Nat) {l : List α} {x : α} (h : x ∈ l) : f x ≤ sumSz f l := by
  induction l with
  | nil => cases h
  | cons a l ih =>
    simp only [sumSz, List.map_cons, List.foldr_cons] at *
    rcases List.mem_cons.1 h with rfl | h
    · omega
    · have := ih h; omega
theorem Small.node {g : GraphP} (h : Small g) {k : Nat} {x : NodeP} (hx : g.nodes[k]? = some x) : x.args.length ≤ 5000 := by
  have := sumSz_mem nodeSz (List.mem_of_getElem? hx)
  simp only [Small, graphSz, nodesSz, nodeSz] at *; omega
theorem Small.block {g : GraphP} (h : Small g) {k : Nat} {x : BlockP} (hx : g.blocks[k]? = some x) : x.nodes.length ≤ 5000 ∧ x.args.length ≤ 5000 ∧ x.next.length ≤ 5000 ∧ x.ahead.length ≤ 5000 := by
  have := sumSz_mem blockSz (List.mem_of_getElem? hx)
  simp only [Small, graphSz, blocksSz, blockSz] at *; omega
theorem Small.lens {g : GraphP} (h : Small g) : g.nodes.length ≤ 5000 ∧ g.blocks.length ≤ 5000 ∧ g.states.length ≤ 5000 := by
  simp only [Small, graphSz, nodesSz, blocksSz, statesSz] at *; omega

/-- The node of a number, if there is one. -/
def nodeAt (g : GraphP) (n : Int) : Option NodeP := if n < 0 then none else g.nodes[n.toNat]?
theorem nodeAt_nat (g : GraphP) (k : Nat) : nodeAt g (k : Int) = g.nodes[k]? := by unfold nodeAt; rw [if_neg (by omega), Int.toNat_natCast]
theorem nodeAt_neg {g : GraphP} {n : Int} (h : n < 0) : nodeAt g n = none := by unfold nodeAt; rw [if_pos h]

/-- Of args those whose place ahead is b. -/
def phiArgs (ahead : List Int) (b : Int) (args : List Int) : List Int := (args.zipIdx.filter (fun p => ahead[p.2]? == some b)).map (·.1)
def phiPart (g : GraphP) (ahead : List Int) (b : Int) (n : Int) : List Int := match nodeAt g n with | some y => if y.op = 2 then phiArgs ahead b y.args else [] | none => []
theorem phiPart_none {g : GraphP} {ahead : List Int} {b n : Int} (h : nodeAt g n = none) : phiPart g ahead b n = [] := by unfold phiPart; rw [h]
theorem phiPart_other {g : GraphP} {ahead : List Int} {b n : Int} {y : NodeP} (h : nodeAt g n = some y) (ho : y.op ≠ 2) : phiPart g ahead b n = [] := by unfold phiPart; rw [h]; simp only [if_neg ho]
theorem phiPart_phi {g : GraphP} {ahead : List Int} {b n : Int} {y : NodeP} (h : nodeAt g n = some y) (ho : y.op = 2) : phiPart g ahead b n = phiArgs ahead b y.args := by unfold phiPart; rw [h]; simp only [if_pos ho]
def phisTo (g : GraphP) (x : BlockP) (b : Int) (k : Nat) : List Int := (x.nodes.take k).flatMap (phiPart g x.ahead b)
def phisOf (g : GraphP) (x : BlockP) (b : Int) : List Int := x.nodes.flatMap (phiPart g x.ahead b)

theorem phiArgs_take (ahead : List Int) (b : Int) (args : List Int) (k : Nat) (a : Int) (h : args[k]? = some a) :
    phiArgs ahead b (args.take (k + 1)) = phiArgs ahead b (args.take k) ++ if ahead[k]? = some b then [a] else [] := by
  have hk : k < args.length := (List.getElem?_eq_some_iff.1 h).1
  unfold phiArgs
  rw [List.take_add_one, h, List.zipIdx_append, List.filter_append, List.map_append]
  congr 1
  have hl : (args.take k).length = k := by rw [List.length_take]; omega
  simp only [Option.toList, List.zipIdx_cons, List.zipIdx_nil, hl, Nat.zero_add, List.filter_cons, List.filter_nil]
  by_cases q : ahead[k]? = some b <;> simp [q]
theorem phiArgs_len (ahead : List Int) (b : Int) (args : List Int) : (phiArgs ahead b args).length ≤ args.length := by
  unfold phiArgs
  rw [List.length_map]
  exact Nat.le_trans (List.length_filter_le _ _) (by simp)
theorem phisTo_step (g : GraphP) (x : BlockP) (b : Int) (k : Nat) (n : Int) (h : x.nodes[k]? = some n) : phisTo g x b (k + 1) = phisTo g x b k ++ phiPart g x.ahead b n := by
  unfold phisTo
  rw [List.take_add_one, h, List.flatMap_append]
  simp
theorem phiPart_len {g : GraphP} (hs : Small g) (ahead : List Int) (b n : Int) : (phiPart g ahead b n).length ≤ 5000 := by
  unfold phiPart
  split
  · rename_i y hy
    split
    · have h1 := phiArgs_len ahead b y.args
      unfold nodeAt at hy
      split at hy
      · cases hy
      · have := hs.node hy; omega
    · simp
  · simp
theorem phisTo_len {g : GraphP} (hs : Small g) (x : BlockP) (b : Int) (k : Nat) : (phisTo g x b k).length ≤ k * 5000 := by
  induction k with
  | zero => simp [phisTo]
  | succ k ih =>
    cases h : x.nodes[k]? with
    | none =>
      have : phisTo g x b (k + 1) = phisTo g x b k := by unfold phisTo; rw [List.take_add_one, h]; simp only [Option.toList, List.append_nil]
      rw [this, Nat.succ_mul]; exact Nat.le_add_right_of_le ih
    | some n =>
      rw [phisTo_step g x b k n h, List.length_append, Nat.succ_mul]
      exact Nat.add_le_add ih (phiPart_len hs x.ahead b n)
theorem phisTo_all (g : GraphP) (x : BlockP) (b : Int) : phisTo g x b x.nodes.length = phisOf g x b := by unfold phisTo phisOf; rw [List.take_length]

def PhisIs (g : GraphP) (x : BlockP) (b : Int) (w : World) (e : Ending) (w' : World) : Prop := ∃ v, e = .returned v ∧ OwnInts w' w.heap.size v (phisOf g x b) ∧ Below w.heap.size w w'

set_option maxRecDepth 100000 in
set_option maxHeartbeats 2000000 in
theorem phis_any (w : World) (xv : GVals) (g : GraphP) (o : Nat) (x : BlockP) (b : Int) (bx : Nat) (hbx : bx < w.heap.size) (hg : GraphV w w.heap.size xv g) (hs : Small g) (hx : g.blocks[o]? = some x)
    (h3 : w.cell? ⟨bx, 3, none⟩ = some xv.vn) (h4 : w.cell? ⟨bx, 4, none⟩ = some xv.vb) :
    Calls Tryz.prog 51 #[.int .i64 (o : Int), .int .i64 b, .pointer (some ⟨bx, 0, none⟩)] w (PhisIs g x b w) := by
  obtain ⟨vn, vb, vs⟩ := xv
  obtain ⟨hn, hb, _⟩ := hg
  simp only at hn hb h3 h4
  obtain ⟨Ab, cb, rfl, hcb, hlb, hb⟩ := hb
  obtain ⟨An, cn, rfl, hcn, hln, hn⟩ := hn
  have hol : o < g.blocks.length := (List.getElem?_eq_some_iff.1 hx).1
  obtain ⟨bb, offb, rfl, hbB, hb⟩ := hb (by omega)
  obtain ⟨⟨v0, f0, hv0⟩, f1, ⟨v2, f2, hv2⟩, ⟨v3, f3, hv3⟩, ⟨v4, f4, hv4⟩, f5⟩ := hb o x hx
  obtain ⟨l1, l2, l3⟩ := hs.lens
  obtain ⟨m1, m2, m3, m4⟩ := hs.block hx
  have HV0 := Lib.hid hv0; have HV2 := Lib.hid hv2; have HV3 := Lib.hid hv3; have HV4 := Lib.hid hv4
  obtain ⟨A0, c0, rfl, _, _, _⟩ := hv0
  obtain ⟨A2, c2, rfl, _, _, _⟩ := hv2
  obtain ⟨A3, c3, rfl, _, _, _⟩ := hv3
  obtain ⟨A4, c4, rfl, _, _, _⟩ := hv4
  have HN := Lib.hid hn; have HX := Lib.hid hx
  have H3 := Lib.hid h3
  obtain ⟨i0, hi, hz0, hz1, hz2⟩ := info_parts int_info
  go_enter Tryz.func51, Tryz.ntmps51
  go_wp2_with fail
  clear hn hb hx h3 h4 f0 f1 f2 f3 f4 f5
  have b1 : Below (w.heap.size + 1) (w.alloc (.cells #[.slice A0 x.nodes.length c0, .int .u8 x.fin, .slice A2 x.args.length c2, .slice A3 x.next.length c3, .slice A4 x.ahead.length c4, .int .i64 x.state] 41)) (w.alloc (.cells #[.slice A0 x.nodes.length c0, .int .u8 x.fin, .slice A2 x.args.length c2, .slice A3 x.next.length c3, .slice A4 x.ahead.length c4, .int .i64 x.state] 41)) := Below.refl _ _
  go_loopw [5, 19] (fun v i wr => ∃ k : Nat, k ≤ x.nodes.length ∧ i = .int .i64 k ∧ OwnInts wr (w.heap.size + 1) v (phisTo g x b k) ∧ Below (w.heap.size + 1) (w.alloc (.cells #[.slice A0 x.nodes.length c0, .int .u8 x.fin, .slice A2 x.args.length c2, .slice A3 x.next.length c3, .slice A4 x.ahead.length c4, .int .i64 x.state] 41)) wr) (fun _ i _ => x.nodes.length - (intOf i).toNat)
  case atStart => exact ⟨0, Nat.zero_le _, rfl, by simpa [phisTo] using OwnInts.nil _ _, b1⟩
  case round =>
    obtain ⟨k, hk, rfl, hown, hb⟩ := hrel
    obtain ⟨wo, rfl⟩ : ∃ wo : World, wo = wr := ⟨_, rfl⟩
    have b0 : Below w.heap.size w wo := ((Below.refl _ _).alloc (Nat.le_refl _) _).trans (hb.mono (by omega))
    have HOwn := Lib.hid hown; have HB := Lib.hid hb; clear hown
    have hblk := (Blk.new w 41 #[.slice A0 x.nodes.length c0, .int .u8 x.fin, .slice A2 x.args.length c2, .slice A3 x.next.length c3, .slice A4 x.ahead.length c4, .int .i64 x.state]).below hb (by omega)
    have q4 : wo.cell? ⟨w.heap.size, 4, none⟩ = some (.slice A4 x.ahead.length c4) := hblk.cell 4
    clear hb hblk
    have HB0 := Lib.hid b0; clear b0
    have p3 := (HB0.out.cell (p := ⟨bx, 3, none⟩) hbx).trans H3.out
    by_cases hlt : k < x.nodes.length
    · obtain ⟨bn, offn, rfl, hbnB, hpn⟩ := (HV0.out.keep (Same.of_below HB0.out)).cells hlt
      obtain ⟨z, hz⟩ := getE hlt
      have e0 := hpn k z hz
      have HZ := Lib.hid hz
      clear hz hpn
      by_cases h0 : z < 0
      · go_wp2_with fail
        go_roundw
        case rel => exact ⟨k + 1, by omega, by go_num, by rw [phisTo_step g x b k z HZ.out, phiPart_none (nodeAt_neg h0), List.append_nil]; exact HOwn.out, HB.out⟩
        case measure => simp [intOf]; omega
      · obtain ⟨zk, rfl⟩ := Int.eq_ofNat_of_zero_le (Int.not_lt.1 h0)
        by_cases h1 : zk < g.nodes.length
        · obtain ⟨bm, offm, rfl, hbmB, hpm⟩ := HN.out (by omega)
          obtain ⟨y, hy⟩ := getE h1
          obtain ⟨g0, ⟨vg, g1, hvg⟩, g2, g3, g4⟩ := (hpm zk y hy).keep (Same.of_below HB0.out) hbmB
          have HVG := Lib.hid hvg
          obtain ⟨Ag, cg, rfl, _, _, _⟩ := hvg
          have m5 := hs.node hy
          have HY := Lib.hid hy
          clear hy hpm
          by_cases hop : y.op = 2
          · rw [hop] at g0
            have HOP := Lib.hid hop; clear hop
            go_wp2_with fail
            go_loopw [5, 48] (fun v i wr => ∃ j : Nat, j ≤ y.args.length ∧ i = .int .i64 j ∧ OwnInts wr (w.heap.size + 1) v (phisTo g x b k ++ phiArgs x.ahead b (y.args.take j)) ∧ Below (w.heap.size + 1) (w.alloc (.cells #[.slice (some ⟨bn, offn, none⟩) x.nodes.length c0, .int .u8 x.fin, .slice A2 x.args.length c2, .slice A3 x.next.length c3, .slice A4 x.ahead.length c4, .int .i64 x.state] 41)) wr) (fun _ i _ => y.args.length - (intOf i).toNat)
            case atStart => exact ⟨0, Nat.zero_le _, rfl, by simpa [phiArgs] using HOwn.out, HB.out⟩
            case round =>
              obtain ⟨j, hj, rfl, hown2, hb2⟩ := hrel
              have b02 : Below w.heap.size w wr := ((Below.refl _ _).alloc (Nat.le_refl _) _).trans (hb2.mono (by omega))
              have HOwn2 := Lib.hid hown2; have HB2 := Lib.hid hb2; have HB02 := Lib.hid b02
              have hblk2 := (Blk.new w 41 #[.slice (some ⟨bn, offn, none⟩) x.nodes.length c0, .int .u8 x.fin, .slice A2 x.args.length c2, .slice A3 x.next.length c3, .slice A4 x.ahead.length c4, .int .i64 x.state]).below hb2 (by omega)
              have q42 : wr.cell? ⟨w.heap.size, 4, none⟩ = some (.slice A4 x.ahead.length c4) := hblk2.cell 4
              have hsz2 : w.heap.size + 1 ≤ wr.heap.size := by have := hb2.size; simpa using this
              clear hown2 hb2 b02 hblk2
              by_cases hjl : j < y.args.length
              · obtain ⟨ba, offa, rfl, hbaB, hpa⟩ := (HVG.out.keep (fun p hp => (HB02.out.cell hp).trans (HB0.out.cell hp).symm)).cells hjl
                obtain ⟨a, ha⟩ := getE hjl
                have e2 := hpa j a ha
                have HA := Lib.hid ha
                clear ha hpa
                by_cases hja : j < x.ahead.length
                · obtain ⟨bh, offh, rfl, hbhB, hph⟩ := (HV4.out.keep (Same.of_below HB02.out)).cells hja
                  obtain ⟨c, hc⟩ := getE hja
                  have e3 := hph j c hc
                  have HC := Lib.hid hc
                  clear hc hph
                  by_cases hcb : c = b
                  · subst hcb
                    have hlen : (phisTo g x c k ++ phiArgs x.ahead c (y.args.take j)).length ≤ 30000000 := by
                      rw [List.length_append]
                      have i1 := phisTo_len hs x c k
                      have i2 := phiArgs_len x.ahead c (y.args.take j)
                      rw [List.length_take] at i2
                      omega
                    go_wp2_with (at_builtin; refine wpList_append_own_at _ rfl (.tmp 67) (.tmp 69) 34 rfl (w.heap.size + 1) 3 i0 (.int .i64 0) 1 8 Tryz.underlying34 hi hz0 hz1 hz2 rfl (by decide) _ _ _ rfl (HOwn2.out.alloc _) ⟨wr.heap.size, 0, none⟩ 1 1 [.int .i64 a] rfl rfl (cell_one_new _ _ _) (ints_oneCell .i64 [a]) (by unfold maxLen; omega) (by omega) (by simp; omega) ?_; intro v' w1 hown' hgrow _ _)
                    go_roundw
                    case rel => exact ⟨j + 1, by omega, by go_num, by rw [phiArgs_take x.ahead c y.args j a HA.out, HC.out, if_pos rfl, ← List.append_assoc]; exact OwnInts.snoc hown', (HB2.out.alloc hsz2 _).grown hgrow (by simp; omega) (fun q e => (HOwn2.out.lt q e).1)⟩
                    case measure => simp [intOf]; omega
                  · have hcf : (c == b) = false := by simp [hcb]
                    have HCB := Lib.hid hcb; clear hcb
                    go_wp2_with fail
                    go_roundw
                    case rel => exact ⟨j + 1, by omega, by go_num, by rw [phiArgs_take x.ahead b y.args j a HA.out, HC.out, if_neg (fun q => HCB.out (by injection q)), List.append_nil]; exact HOwn2.out, HB2.out⟩
                    case measure => simp [intOf]; omega
                · go_wp2_with fail
                  go_roundw
                  case rel => exact ⟨j + 1, by omega, by go_num, by rw [phiArgs_take x.ahead b y.args j a HA.out, List.getElem?_eq_none (by omega), if_neg (by simp), List.append_nil]; exact HOwn2.out, HB2.out⟩
                  case measure => simp [intOf]; omega
              · go_wp2_with fail
                go_roundw
                case rel => exact ⟨k + 1, by omega, by go_num, by rw [phisTo_step g x b k _ HZ.out, phiPart_phi ((nodeAt_nat g zk).trans HY.out) HOP.out]; have := HOwn2.out; rwa [List.take_of_length_le (by omega)] at this, HB2.out⟩
                case measure => simp [intOf]; omega
          · have hopb : (y.op != 2) = true := by simp [hop]
            have HOP := Lib.hid hop; clear hop
            go_wp2_with fail
            go_roundw
            case rel => exact ⟨k + 1, by omega, by go_num, by rw [phisTo_step g x b k _ HZ.out, phiPart_other ((nodeAt_nat g zk).trans HY.out) HOP.out, List.append_nil]; exact HOwn.out, HB.out⟩
            case measure => simp [intOf]; omega
        · go_wp2_with fail
          go_roundw
          case rel => exact ⟨k + 1, by omega, by go_num, by rw [phisTo_step g x b k _ HZ.out, phiPart_none ((nodeAt_nat g zk).trans (List.getElem?_eq_none (by omega))), List.append_nil]; exact HOwn.out, HB.out⟩
          case measure => simp [intOf]; omega
    · go_wp2_with fail
      go_ret
      exact ⟨_, rfl, by have := HOwn.out; rw [show k = x.nodes.length from by omega, phisTo_all] at this; exact this.mono (by omega), HB0.out⟩
end Go.Proofs.YtkmfdiboekoioaaGreat
