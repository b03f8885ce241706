/- graph.look.states: may all states be, but for where their slots stand? Conditions: a graph that is looked at; depths of its function. -/
import Derived.Test.YtkmfdiboekoioaaGreatCLk9
import Derived.Test.YtkmfdiboekoioaaGreatCMaps
set_option linter.unusedSimpArgs false
set_option linter.unusedVariables false
namespace Go.Proofs.YtkmfdiboekoioaaGreat
open Go.RowKit
theorem stateBad_any (w : World) (B bl b1 : Nat) (pv : Value) (p : List FnP) (xv : GVals) (g : GraphP) (ds : List Int) (dv av bv : Value) (h : LkBox w B bl pv p xv g dv av bv) (k1 : b1 < w.heap.size) (h1 : w.cell? ⟨b1, 0, none⟩ = some (.pointer (some ⟨bl, 0, none⟩))) (hd : IntsV w w.heap.size dv ds)
    (s : StateP) (vx : Value) (hx : IntsV w w.heap.size vx s.slots) (hdb : ∀ d ∈ ds, -1 ≤ d ∧ d ≤ 257) (fn : Nat) (hgf : g.fn = (fn : Int)) (x : FnP) (hf : p[fn]? = some x) (hloc : 0 ≤ x.locals ∧ x.locals ≤ 64) :
    Calls Tryz.prog 86 #[.agg #[.int .i64 s.pc, vx], .pointer (some ⟨b1, 0, none⟩)] w (fun e w' => e = .returned (.bool (stateBadB g.nodes.length ds x.locals s)) ∧ Below w.heap.size w w') := by
  by_cases hin : 0 ≤ s.pc ∧ s.pc < (ds.length : Int)
  · obtain ⟨k, hpk⟩ : ∃ k : Nat, s.pc = (k : Int) := ⟨s.pc.toNat, by omega⟩
    have hk : k < ds.length := by omega
    obtain ⟨d, hdk⟩ := getL hk
    have hb := hdb d (List.mem_of_getElem? hdk)
    have hg : ds.getD s.pc.toNat 0 = d := by rw [hpk, Int.toNat_natCast, List.getD_eq_getElem?_getD, hdk]; rfl
    by_cases hneg : d < 0
    · have e : stateBadB g.nodes.length ds x.locals s = true := by unfold stateBadB; rw [hg]; simp [hneg]
      rw [e]
      exact stateBad_neg w B bl b1 pv p xv g ds dv av bv h k1 h1 hd s vx hx k hpk hk d hdk hb fn hgf x hf hloc hneg
    · by_cases heq : (s.slots.length : Int) = x.locals + d
      · have e : stateBadB g.nodes.length ds x.locals s = s.slots.any (slotBadB g.nodes.length) := by unfold stateBadB; rw [hg]; simp [hneg, heq, hin.1, hin.2]
        exact stateBad_in w B bl b1 pv p xv g ds dv av bv h k1 h1 hd s vx hx k hpk hk d hdk hb fn hgf x hf hloc (by omega) heq _ e
      · have e : stateBadB g.nodes.length ds x.locals s = true := by unfold stateBadB; rw [hg]; simp [heq]
        rw [e]
        exact stateBad_len w B bl b1 pv p xv g ds dv av bv h k1 h1 hd s vx hx k hpk hk d hdk hb fn hgf x hf hloc (by omega) heq
  · have e : stateBadB g.nodes.length ds x.locals s = true := by
      unfold stateBadB
      have : (decide (0 ≤ s.pc) && decide (s.pc < (ds.length : Int))) = false := by
        rw [← Bool.not_eq_true]; simp only [Bool.and_eq_true, decide_eq_true_eq]; exact hin
      rw [this]; rfl
    rw [e]
    exact stateBad_out w B bl b1 pv p xv g ds dv av bv h k1 h1 hd s vx hx hin
set_option maxRecDepth 100000 in
set_option maxHeartbeats 4000000 in
theorem states_any (w : World) (B bl : Nat) (pv : Value) (p : List FnP) (xv : GVals) (g : GraphP) (ds : List Int) (dv av bv : Value) (h : LkBox w B bl pv p xv g dv av bv) (hd : IntsV w w.heap.size dv ds)
    (hdb : ∀ d ∈ ds, -1 ≤ d ∧ d ≤ 257) (fn : Nat) (hgf : g.fn = (fn : Int)) (x : FnP) (hf : p[fn]? = some x) (hloc : 0 ≤ x.locals ∧ x.locals ≤ 64) :
    Calls Tryz.prog 40 #[.pointer (some ⟨bl, 0, none⟩)] w (fun e w' => e = .returned (.bool (!g.states.any (stateBadB g.nodes.length ds x.locals))) ∧ Below w.heap.size w w') := by
  obtain ⟨w1, hw1⟩ : ∃ w1, w1 = w.alloc (.cells #[.pointer (some ⟨bl, 0, none⟩)] 84) := ⟨_, rfl⟩
  have hb1 : Below w.heap.size w w1 := by rw [hw1]; exact (Below.refl _ _).alloc (Nat.le_refl _) _
  have hX : Blk w1 w.heap.size 84 #[.pointer (some ⟨bl, 0, none⟩)] := by rw [hw1]; exact Blk.new _ _ _
  have x0 : w1.cell? ⟨w.heap.size, 0, none⟩ = some (.pointer (some ⟨bl, 0, none⟩)) := hX.cell 0
  have xl := hX.lt
  have h1 := h.below hb1
  have c6 := h1.cells.2.2.2.2.2.2.1
  have hll := h1.box.lt
  have HS := Lib.hid (h1.gr.mono h1.hB).2.2
  obtain ⟨As, cs, es, _⟩ := h1.gr.2.2
  rw [es] at c6 HS
  have HL := Lib.hid h1; have HD := Lib.hid (hd.later hb1 (Nat.le_refl _)); have HB := Lib.hid hb1; have HF := Lib.hid hf; have HG := Lib.hid hgf; have HDb := Lib.hid hdb
  obtain ⟨t, ht⟩ : ∃ t, t = g.states.any (stateBadB g.nodes.length ds x.locals) := ⟨_, rfl⟩
  rw [← ht]
  have HT := Lib.hid ht
  clear h hd hb1 hX h1 ht hf hgf hdb es
  cases t
  · go_enter Tryz.func40, Tryz.ntmps40
    go_upto_region 1 with fail
    rw [← hw1]
    clear hw1
    go_wp2_with (go_at_call 73; refine (ctState_any w1 _ g.states 86 #[] #[.pointer (some ⟨w.heap.size, 0, none⟩)] (stateBadB g.nodes.length ds x.locals) HS.out (fun _ _ => by kernel_rfl) (fun wr y vy _ hwr hvy => stateBad_any wr B bl w.heap.size pv p xv g ds dv av bv (HL.out.below hwr) (Nat.lt_of_lt_of_le xl hwr.size) ((hwr.cell (p := ⟨w.heap.size, 0, none⟩) xl).trans x0) (HD.out.later hwr (Nat.le_refl _)) y vy (hvy.mono hwr.size) HDb.out fn HG.out x HF.out hloc) false HT.out).mono ?_; rintro e w9 ⟨rfl, hb9⟩; have HB9 := Lib.hid hb9; clear hb9)
    go_ret
    exact ⟨rfl, HB.out.trans (HB9.out.mono HB.out.size)⟩
  · go_enter Tryz.func40, Tryz.ntmps40
    go_upto_region 1 with fail
    rw [← hw1]
    clear hw1
    go_wp2_with (go_at_call 73; refine (ctState_any w1 _ g.states 86 #[] #[.pointer (some ⟨w.heap.size, 0, none⟩)] (stateBadB g.nodes.length ds x.locals) HS.out (fun _ _ => by kernel_rfl) (fun wr y vy _ hwr hvy => stateBad_any wr B bl w.heap.size pv p xv g ds dv av bv (HL.out.below hwr) (Nat.lt_of_lt_of_le xl hwr.size) ((hwr.cell (p := ⟨w.heap.size, 0, none⟩) xl).trans x0) (HD.out.later hwr (Nat.le_refl _)) y vy (hvy.mono hwr.size) HDb.out fn HG.out x HF.out hloc) true HT.out).mono ?_; rintro e w9 ⟨rfl, hb9⟩; have HB9 := Lib.hid hb9; clear hb9)
    go_ret
    exact ⟨rfl, HB.out.trans (HB9.out.mono HB.out.size)⟩
end Go.Proofs.YtkmfdiboekoioaaGreat

/- A map whose values are rows of three numbers: what 'm[k] = v' and 'v, ok := m[k]' do, whatever stands in it. Conditions: the map's types. -/
namespace Go.Proofs.YtkmfdiboekoioaaGreat
open Go.RowKit Go.MapKept
def ShV (v : Value) : Prop := ∃ a b c : Int, v = .agg #[.int .i64 a, .int .i64 b, .int .i64 c]
def ShMap (w : World) (r : Nat) : Prop := ∃ es clock, w.heap[r]? = some (.map es clock) ∧ ∀ e ∈ es.toList, IsKey (.int .u8) e.key ∧ ShV e.val
theorem ShMap.made (w : World) : ShMap (w.alloc (.map #[] 0)) w.heap.size := ⟨#[], 0, heap_alloc_new w _, by simp⟩
section
variable {P : Program} {w : World} {r : Nat} {T K E : TypeId}
theorem ShMap.update (h : ShMap w r) (ht : P.underlying T = some (.map K E)) (hk : P.underlying K = some (.int .u8)) (x : Int) (v : Value) (hv : ShV v) :
    ∃ w1, (Instr.mapUpdate T (.map (some r)) (.int .u8 x) v).run P w = .ok () w1 ∧ ShMap w1 r ∧ w.grownBy w1 (some r) ∧ w1.heap.size = w.heap.size := by
  obtain ⟨es, clock, hb, hm⟩ := h
  have hkey : IsKey (.int .u8) (.int .u8 x) := rfl
  rcases findNow_spec (d := .int .u8) hkey es.toList 0 (fun e he => (hm e he).1) with ⟨h1, h2⟩ | ⟨j, e, h1, h2, h3⟩
  · refine ⟨_, ?_, ⟨_, _, (heap_set (o' := .map (es.push { key := .int .u8 x, val := v, born := clock }) (clock + 1)) hb).1, fun e he => ?_⟩, grownBy_set hb _, by simp⟩
    · simp [Instr.mapUpdate, run_underlying ht, MapKept.run_getObj_map hb, run_checkKey hk hkey, run_findKey hk h1, run_setObj_map _ hb, Result.andThen]
    · simp only [Array.toList_push, List.mem_append, List.mem_singleton] at he
      rcases he with he | rfl
      · exact hm e he
      · exact ⟨hkey, hv⟩
  · have he2 : es[j]? = some e := by rw [← Array.getElem?_toList]; exact h2
    rw [Nat.zero_add] at h1
    have hkt : (Instr.keyThatStays (.int .u8 x) (.int .u8 x)).run P w = .ok (.int .u8 x) w := run_keyThatStays hkey
    refine ⟨{ w with heap := w.heap.setIfInBounds r (.map (es.modify j (fun e => { key := .int .u8 x, val := v, born := e.born })) clock) }, ?_, ⟨_, _, (heap_set hb).1, fun a ha => ?_⟩, grownBy_set hb _, by simp⟩
    · simp [Instr.mapUpdate, run_underlying ht, MapKept.run_getObj_map hb, run_checkKey hk hkey, run_findKey hk h1, run_setObj_map _ hb, Result.andThen, he2, h3, hkt]
    · rw [modify_list h2 (fun e => { key := .int .u8 x, val := v, born := e.born })] at ha
      rcases mem_set ha with rfl | ⟨i, _, ha⟩
      · exact ⟨hkey, hv⟩
      · exact hm a (List.mem_of_getElem? ha)
theorem ShMap.look (h : ShMap w r) (ht : P.underlying T = some (.map K E)) (hk : P.underlying K = some (.int .u8)) (hz : (zeroValue E).run P w = .ok (.agg #[.int .i64 0, .int .i64 0, .int .i64 0]) w) (x : Int) :
    ∃ (a b c : Int) (t : Bool), (Instr.lookup T (.map (some r)) (.int .u8 x) true).run P w = .ok (.tuple #[.agg #[.int .i64 a, .int .i64 b, .int .i64 c], .bool t]) w := by
  obtain ⟨es, clock, hb, hm⟩ := h
  have hkey : IsKey (.int .u8) (.int .u8 x) := rfl
  rcases findNow_spec (d := .int .u8) hkey es.toList 0 (fun e he => (hm e he).1) with ⟨h1, h2⟩ | ⟨j, e, h1, h2, h3⟩
  · exact ⟨0, 0, 0, false, by simp [Instr.lookup, run_underlying ht, MapKept.run_getObj_map hb, run_checkKey hk hkey, run_findKey hk h1, Result.andThen, hz]⟩
  · obtain ⟨a, b, c, hv⟩ := (hm e (List.mem_of_getElem? h2)).2
    exact ⟨a, b, c, true, by simp [Instr.lookup, run_underlying ht, MapKept.run_getObj_map hb, run_checkKey hk hkey, run_findKey hk h1, Result.andThen, hv]⟩
end
theorem ShMap.turn {w w' : World} {r : Nat} (h : ShMap w r) (h' : ShMap w' r) (hg : w.grownBy w' (some r)) {p : Addr} (hp : p.block < w.heap.size) : w'.cell? p = w.cell? p := by
  by_cases e : p.block = r
  · obtain ⟨es, clock, hb, _⟩ := h
    obtain ⟨es', clock', hb', _⟩ := h'
    rw [show w.cell? p = none by simp [World.cell?, e, hb]]
    simp [World.cell?, e, hb']
  · exact World.cell?_of_block (hg.block p.block hp (fun q => e (by injection q)))
end Go.Proofs.YtkmfdiboekoioaaGreat
