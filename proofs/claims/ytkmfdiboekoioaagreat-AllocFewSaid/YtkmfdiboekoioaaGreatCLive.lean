/- The walk of live.Of. -/
import Derived.Test.YtkmfdiboekoioaaGreatCLoop6
import Derived.Deep.Cut
import Derived.Deep.CutRange
import Derived.Deep.DeepCutAuto
import Derived.Deep.RegionWith
import Derived.BigRegion
import Derived.Laws.MakeOwn
set_option linter.unusedSimpArgs false
set_option linter.unusedVariables false
namespace Go.Proofs.YtkmfdiboekoioaaGreat
open Go.RowKit
theorem set_info : (Tryz.prog.info? 95).map (fun i => (i.zero, i.size, i.bytes)) = some (some (.map none), 1, 8) := by kernel_rfl

theorem blks4 (w : World) (c0 c1 c2 c3 : Array Value) (t0 t1 t2 t3 : TypeId) :
  Blk ((((w.alloc (.cells c0 t0)).alloc (.cells c1 t1)).alloc (.cells c2 t2)).alloc (.cells c3 t3)).drew w.heap.size t0 c0 ∧
  Blk ((((w.alloc (.cells c0 t0)).alloc (.cells c1 t1)).alloc (.cells c2 t2)).alloc (.cells c3 t3)).drew (w.heap.size + 1) t1 c1 ∧
  Blk ((((w.alloc (.cells c0 t0)).alloc (.cells c1 t1)).alloc (.cells c2 t2)).alloc (.cells c3 t3)).drew (w.heap.size + 1 + 1) t2 c2 ∧
  Blk ((((w.alloc (.cells c0 t0)).alloc (.cells c1 t1)).alloc (.cells c2 t2)).alloc (.cells c3 t3)).drew (w.heap.size + 1 + 1 + 1) t3 c3 ∧
  Below w.heap.size w ((((w.alloc (.cells c0 t0)).alloc (.cells c1 t1)).alloc (.cells c2 t2)).alloc (.cells c3 t3)).drew := by
 refine ⟨?_, ?_, ?_, ?_, ?_⟩
 ·exact (((Blk.new w t0 c0).alloc _).alloc _).alloc _
 ·have := ((Blk.new (w.alloc (.cells c0 t0)) t1 c1).alloc (.cells c2 t2)).alloc (.cells c3 t3)
  exact Blk.drew (by simpa using this)
 ·have := (Blk.new ((w.alloc (.cells c0 t0)).alloc (.cells c1 t1)) t2 c2).alloc (.cells c3 t3)
  exact Blk.drew (by simpa using this)
 ·have := Blk.new (((w.alloc (.cells c0 t0)).alloc (.cells c1 t1)).alloc (.cells c2 t2)) t3 c3
  exact Blk.drew (by simpa using this)
 ·exact (((((Below.refl w.heap.size w).alloc (Nat.le_refl _) _).alloc (by simp) _).alloc (by simp; omega) _).alloc (by simp; omega) _).drew

theorem first_done {p : Prop} {g : GraphP} {I O : Sets} (h : Hid (p → Done g I O 0)) (hp : p) : Done g I O 0 := h.out hp
def LiveOut (g : GraphP) (w : World) (e : Ending) (w' : World) : Prop :=
 ∃ (I O : Sets) (vI vO : Value), e = .returned (.agg #[vI, vO]) ∧ LiveIs g I O ∧ RowsV w' w'.heap.size vI (listsTo g.nodes.length I g.blocks.length) ∧ RowsV w' w'.heap.size vO (listsTo g.nodes.length O g.blocks.length) ∧ Below w.heap.size w w'

set_option maxRecDepth 100000 in
set_option maxHeartbeats 4000000 in
theorem live_any (w : World) (xv : GVals) (g : GraphP) (hg : GraphV w w.heap.size xv g) (hs : Small g) :
  Calls Tryz.prog 15 #[gval g xv] w (LiveOut g w) := by
 obtain ⟨vn, vb, vs⟩ := xv
 have HG := Lib.hid hg
 obtain ⟨hn, hb, _⟩ := hg
 simp only at hn hb
 obtain ⟨Ab, cb, rfl, hcb, hlb, hb⟩ := hb
 obtain ⟨An, cn, rfl, hcn, hln, hn⟩ := hn
 clear hn hb
 obtain ⟨l1, l2, l3⟩ := hs.lens
 obtain ⟨i0, hi, hz0, hz1, hz2⟩ := info_parts set_info
 have hmk := fun W : World => run_make (P := Tryz.prog) W 94 95 i0 (.map none) Tryz.underlying94 hi hz0 .i64 .i64 (g.blocks.length : Int) (g.blocks.length : Int) (by omega) (Int.le_refl _) (by rw [hz2]; omega) (by omega)
 simp only [hz1, Int.toNat_natCast, Value.cells, Nat.mul_one] at hmk
 unfold gval
 go_enter Tryz.func15, Tryz.ntmps15
 go_upto_region 1 with fail
 go_step3
 go_upto_region 1 with fail
 go_cut [3, 4] from 21 to 28 (fun v3 v4 wc => ∃ bi bo : Nat, v3 = .slice (some ⟨bi, 0, none⟩) g.blocks.length g.blocks.length ∧ v4 = .slice (some ⟨bo, 0, none⟩) g.blocks.length g.blocks.length ∧ bi ≠ bo ∧ w.heap.size + 2 ≤ bi ∧ w.heap.size + 2 ≤ bo ∧
  Blk wc bi 95 (madeCells #[.map none] g.blocks.length) ∧ Blk wc bo 95 (madeCells #[.map none] g.blocks.length) ∧ Blk wc w.heap.size 28 #[.int .i64 g.fn, .int .i64 g.pc, .int .i64 g.slots, .slice An g.nodes.length cn, .slice Ab g.blocks.length cb, vs] ∧ Blk wc (w.heap.size + 1) 45 #[.slice none 0 0, .slice none 0 0] ∧ Below w.heap.size w wc)
 case first =>
  go_region
  all_goals
   go_wp2_with fail
   go_meet
   case rel =>
    obtain ⟨f0, f1, f2, f3, f4⟩ := blks4 w _ _ _ _ _ _ _ _
    first
     | exact ⟨_, _, rfl, rfl, by omega, by omega, by omega, f2, f3, f0, f1, f4⟩
     | exact ⟨_, _, rfl, rfl, by omega, by omega, by omega, f3, f2, f0, f1, f4⟩
 case rest =>
  obtain ⟨bi, bo, rfl, rfl, hne, hbi, hbo, kI, kO, kG, kL, hB⟩ := hcut
  have HInv : Hid (LiveInv w g #[.int .i64 g.fn, .int .i64 g.pc, .int .i64 g.slots, .slice An g.nodes.length cn, .slice Ab g.blocks.length cb, vs] bi bo (fun _ => none) (fun _ => none) wc) := Lib.hid ⟨SRows.start kI, SRows.start kO, kG, kL, hB, Grows.start g⟩
  clear kI kO kG kL hB hmk hi hz0 hz1 hz2
  go_wp2_with fail
  go_step3
  go_wp2_with fail
  go_loopg [7] (total g.nodes.length g.blocks.length (fun _ => none) (fun _ => none) + 1) (fun k v7 wr => ∃ (I O : Sets) (ch : Bool), v7 = .bool ch ∧ Hid (LiveInv w g #[.int .i64 g.fn, .int .i64 g.pc, .int .i64 g.slots, .slice An g.nodes.length cn, .slice Ab g.blocks.length cb, vs] bi bo I O wr) ∧ Hid (total g.nodes.length g.blocks.length I O + more ch ≤ k) ∧ Hid (ch = false → Done g I O 0))
  case atStart => exact ⟨_, _, true, rfl, HInv, Lib.hid (Nat.le_refl _), Lib.hid (fun h => Bool.noConfusion h)⟩
  case round =>
   obtain ⟨I, O, ch, rfl, hinv, htot, hdone⟩ := hrel
   have q3 : wr.cell? ⟨w.heap.size, 3, none⟩ = some (.slice An g.nodes.length cn) := hinv.out.kG.cell 3
   have q4 : wr.cell? ⟨w.heap.size, 4, none⟩ = some (.slice Ab g.blocks.length cb) := hinv.out.kG.cell 4
   cases ch
   ·have hz0 : w.heap.size < wr.heap.size := hinv.out.kG.lt
    have HI := Lib.hid hinv.out
    go_wp2_with fail
    refine loop6_any wr bi bo g I O hs HI.out.rI HI.out.rO HI.out.grow.boundI HI.out.grow.boundO _ _ _ _ _ _ _ _ _ _ _ _ _ _ _ _ _ _ _ _ _ _ _ _ _ _ _ _ _ _ _ _ _ _ _ _ _ _ _ _ _ _ _ _ _ _ _ _ _ _ _ _ _ _ _ _ _ _ _ _ _ _ _ _ _ _ _ _ _ _ _ _ _ _ _ _ _ _ _ _ _ _ _ _ _ _ _ _ _ _ _ _ _ _ _ _ _ _ _ _ _ _ _ _ _ _ _ _ _ _ _ _ _ _ _ _ _ _ _ _ _ _ _ _ _ _ _ _ _ _ _ _ _ _ _ _ _ _ _ _ _ _ _ _ _ _ _ _ _ _ _ _ _ _ _ _ _ _ _ _ _ _ _ _ _ _ _ _ _ _ _ _ _ _ _ _ _ _ _ _ _ _ _ _ _ _ _ _ _ _ _ _ _ _ _ _ _ _ _ _ _ _ _ _ _ _ _ _ _ ?_
    rintro x20 x188 x189 x190 x191 x192 x193 x194 x195 x196 x197 x198 x199 x200 x201 x202 x203 x204 x205 x206 x207 x208 x209 x210 x211 w3 ⟨vI, vO, hb3, hbox, hrows⟩
    have HB3 := Lib.hid hb3; have HRows := Lib.hid hrows; obtain ⟨hrI, hrO⟩ := hrows w3 (fun _ _ _ => rfl); have HBox := Lib.hid hbox
    have kL3 := HI.out.kL.below hb3 HI.out.kL.lt
    have HKL := Lib.hid kL3
    obtain ⟨AI, cI, eI, _⟩ := hrI
    obtain ⟨AO, cO, eO, _⟩ := hrO
    subst eI eO
    have b0 := hbox.cell 0
    have b1 := hbox.cell 1
    have c0 := kL3.cell 0
    have c1 := kL3.cell 1
    have f0 := kL3.frozen 0
    have f1 := kL3.frozen 1
    clear q3 q4 hb3 hbox kL3 hrows
    dsimp only [Exit.inBlock]
    go_wp2_with fail
    refine bodyPost_ret (v := .agg #[.slice AI (listsTo g.nodes.length I g.blocks.length).length cI, .slice AO (listsTo g.nodes.length O g.blocks.length).length cO]) ?_ rfl ?_
    ·have hfr : (Tryz.f15).results = #[.cell 2 45] := rfl
     simp only [results, hfr]
     go_simp
    refine ⟨I, O, _, _, rfl, HI.out.grow.done (fun b x hx => (first_done hdone (by first | rfl | trivial)) b x (Nat.zero_le _) hx), ?_⟩
    have hlt1 : w.heap.size + 1 < wr.heap.size := HI.out.kL.lt
    obtain ⟨r1, r2⟩ := HRows.out ((w3.setCell ⟨w.heap.size + 1, 0, none⟩ (.slice AI (listsTo g.nodes.length I g.blocks.length).length cI)).setCell ⟨w.heap.size + 1, 1, none⟩ (.slice AO (listsTo g.nodes.length O g.blocks.length).length cO))
     (fun k hk _ => (Below.heap_setCell _ ⟨w.heap.size + 1, 1, none⟩ _ k (show k ≠ w.heap.size + 1 by omega)).trans (Below.heap_setCell _ ⟨w.heap.size + 1, 0, none⟩ _ k (show k ≠ w.heap.size + 1 by omega)))
    exact ⟨r1, r2, ((HI.out.low.trans (HB3.out.mono HI.out.low.size)).setCell (p := ⟨w.heap.size + 1, 0, none⟩) (show w.heap.size ≤ w.heap.size + 1 by omega) _).setCell (p := ⟨w.heap.size + 1, 1, none⟩) (show w.heap.size ≤ w.heap.size + 1 by omega) _⟩
   ·go_wp2_with fail
    refine loop2_any w wr bi bo ⟨.slice An g.nodes.length cn, .slice Ab g.blocks.length cb, vs⟩ g I O hs HG.out hne hbi hbo hinv.out _ _ _ _ _ _ _ _ _ _ _ _ _ _ _ _ _ _ _ _ _ _ _ _ _ _ _ _ _ _ _ _ _ _ _ _ _ _ _ _ _ _ _ _ _ _ _ _ _ _ _ _ _ _ _ _ _ _ _ _ _ _ _ _ _ _ _ _ _ _ _ _ _ _ _ _ _ _ _ _ _ _ _ _ _ _ _ _ _ _ _ _ _ _ _ _ _ _ _ _ _ _ _ _ _ _ _ _ _ _ _ _ _ _ _ _ _ _ _ _ _ _ _ _ _ _ _ _ _ _ _ _ _ _ _ _ _ _ _ _ _ _ _ _ _ _ _ _ _ _ _ _ _ _ _ _ _ _ _ _ _ _ _ _ _ _ _ _ _ _ _ _ _ _ _ _ _ _ _ _ _ _ _ _ _ _ _ _ _ _ _ _ _ _ _ _ _ _ _ _ _ _ _ _ _ ?_
    intro x7 x8 x9 x10 x11 x13 x14 x16 x18 x35 x36 x37 x38 x39 x40 x41 x42 x43 x44 x45 x46 x47 x48 x49 x50 x51 x52 x53 x54 x55 x56 x57 x58 x59 x60 x61 x62 x63 x64 x65 x66 x67 x68 x69 x70 x71 x72 x73 x74 x75 x76 x77 x78 x79 x80 x81 x82 x83 x84 x85 x86 x87 x88 x89 x90 x91 x92 x93 x94 x95 x96 x97 x98 x99 x100 x101 x102 x103 x104 x105 x106 x107 x108 x109 x110 x111 x112 x113 x114 x115 x116 x117 x118 x119 x120 x121 x122 x123 x124 x125 x126 x127 x128 x129 x130 x131 x132 x133 x134 x135 x136 x137 x138 x139 x140 x141 x142 x143 x144 x145 x146 x147 x148 x149 x150 x151 x152 x153 x154 x155 x156 x157 x158 x159 x160 x161 x162 x163 x164 x165 x166 x167 x168 x169 x170 x171 x172 x173 x174 x175 x176 x177 x178 x179 x180 x181 x182 x183 w2 ⟨I2, O2, ch2, e7, hinv2, htot2, hdone2⟩
    subst e7
    have HI2 := Lib.hid hinv2; have HT2 := Lib.hid htot2; have HD2 := Lib.hid hdone2
    clear hinv2 htot2 hdone2 hinv
    dsimp only [Exit.inBlock]
    cases ch2
    ·go_wp2_with fail
     go_roundg (total g.nodes.length g.blocks.length I2 O2)
     case rel => exact ⟨I2, O2, false, rfl, HI2, Lib.hid (by simp [more]), by first | exact HD2 | exact Lib.hid (fun _ => HD2.out trivial) | exact Lib.hid (fun h => Bool.noConfusion h)⟩
     case measure => have h1 := htot.out; have h2 := HT2.out; simp only [more, if_true, if_false] at h1 h2; omega
    ·go_wp2_with fail
     go_roundg (total g.nodes.length g.blocks.length I2 O2 + 1)
     case rel => exact ⟨I2, O2, true, rfl, HI2, Lib.hid (by simp [more]), by first | exact HD2 | exact Lib.hid (fun _ => HD2.out trivial) | exact Lib.hid (fun h => Bool.noConfusion h)⟩
     case measure => have h1 := htot.out; have h2 := HT2.out; simp only [more, if_true, if_false] at h1 h2; omega
end Go.Proofs.YtkmfdiboekoioaaGreat
