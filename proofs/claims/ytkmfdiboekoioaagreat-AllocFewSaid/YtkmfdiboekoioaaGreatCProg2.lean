/- A program (functions of code) as plain data that lies in memory. No condition. -/
import Derived.Test.YtkmfdiboekoioaaGreatCBase
import Derived.Test.YtkmfdiboekoioaaGreatChecked
import Derived.Deep.Slices
import Derived.Deep.Fields
import Derived.SizedLaws
import Derived.OpenShut
set_option linter.unusedSimpArgs false
set_option linter.unusedVariables false
namespace Go.Proofs.YtkmfdiboekoioaaGreat
open Go.RowKit

structure CapP where
 up : Bool
 n : Int
structure ConstP where
 kind : Int
 n : Int
 s : ByteArray
structure InsP where
 op : Int
 a : Int
structure HandlerP where
 from_ : Int
 to_ : Int
 at_ : Int
 deep : Int
structure FnP where
 name : ByteArray
 params : Int
 locals : Int
 caps : List CapP
 consts : List ConstP
 code : List InsP
 lines : List Int
 handlers : List HandlerP

def CapAt (w : World) (b o : Nat) (x : CapP) : Prop := w.cell? ⟨b, o, none⟩ = some (.bool x.up) ∧ w.cell? ⟨b, o + 1, none⟩ = some (.int .i64 x.n)
def ConstAt (w : World) (b o : Nat) (x : ConstP) : Prop := w.cell? ⟨b, o, none⟩ = some (.int .u8 x.kind) ∧ w.cell? ⟨b, o + 1, none⟩ = some (.int .i64 x.n) ∧ w.cell? ⟨b, o + 2, none⟩ = some (.string x.s) ∧ x.s.size ≤ 140737488355328
def InsAt (w : World) (b o : Nat) (x : InsP) : Prop := w.cell? ⟨b, o, none⟩ = some (.int .u8 x.op) ∧ w.cell? ⟨b, o + 1, none⟩ = some (.int .i64 x.a) ∧ (0 ≤ x.op ∧ x.op ≤ 255)
def HandlerAt (w : World) (b o : Nat) (x : HandlerP) : Prop := w.cell? ⟨b, o, none⟩ = some (.int .i64 x.from_) ∧ w.cell? ⟨b, o + 1, none⟩ = some (.int .i64 x.to_) ∧ w.cell? ⟨b, o + 2, none⟩ = some (.int .i64 x.at_) ∧ w.cell? ⟨b, o + 3, none⟩ = some (.int .i64 x.deep)
abbrev CapsV (w : World) (B : Nat) := PartsV B (CapAt w) 2
abbrev ConstsV (w : World) (B : Nat) := PartsV B (ConstAt w) 3
abbrev InsesV (w : World) (B : Nat) := PartsV B (InsAt w) 2
abbrev HandlersV (w : World) (B : Nat) := PartsV B (HandlerAt w) 4
/-- The values of a function's slices. -/
structure FVals where
 c3 : Value
 c4 : Value
 c5 : Value
 c6 : Value
 c7 : Value
structure FnV (w : World) (B : Nat) (y : FVals) (x : FnP) : Prop where
 name : x.name.size ≤ 140737488355328
 caps : CapsV w B y.c3 x.caps
 consts : ConstsV w B y.c4 x.consts
 code : InsesV w B y.c5 x.code
 lines : IntsV w B y.c6 x.lines
 handlers : HandlersV w B y.c7 x.handlers
def fnCells (x : FnP) (y : FVals) : Array Value := #[.string x.name, .int .i64 x.params, .int .i64 x.locals, y.c3, y.c4, y.c5, y.c6, y.c7]
def FnAt (w : World) (B b o : Nat) (x : FnP) : Prop := ∃ y, FnV w B y x ∧ ∀ k, k < 8 → w.cell? ⟨b, o + k, none⟩ = (fnCells x y)[k]?
abbrev ProgV (w : World) (B : Nat) := PartsV B (FnAt w B) 8

section
variable {w w' : World} {B B' b o : Nat}
theorem CapAt.keep {x : CapP} (hk : Same B w w') (hb : b < B) (h : CapAt w b o x) : CapAt w' b o x := ⟨(hk _ hb).trans h.1, (hk _ hb).trans h.2⟩
theorem ConstAt.keep {x : ConstP} (hk : Same B w w') (hb : b < B) (h : ConstAt w b o x) : ConstAt w' b o x := ⟨(hk _ hb).trans h.1, (hk _ hb).trans h.2.1, (hk _ hb).trans h.2.2.1, h.2.2.2⟩
theorem InsAt.keep {x : InsP} (hk : Same B w w') (hb : b < B) (h : InsAt w b o x) : InsAt w' b o x := ⟨(hk _ hb).trans h.1, (hk _ hb).trans h.2.1, h.2.2⟩
theorem HandlerAt.keep {x : HandlerP} (hk : Same B w w') (hb : b < B) (h : HandlerAt w b o x) : HandlerAt w' b o x := ⟨(hk _ hb).trans h.1, (hk _ hb).trans h.2.1, (hk _ hb).trans h.2.2.1, (hk _ hb).trans h.2.2.2⟩
theorem FnV.keep {y : FVals} {x : FnP} (hk : Same B w w') (h : FnV w B y x) : FnV w' B y x :=
 ⟨h.name, h.caps.imp (Nat.le_refl _) fun _ _ _ hb h => h.keep hk hb, h.consts.imp (Nat.le_refl _) fun _ _ _ hb h => h.keep hk hb, h.code.imp (Nat.le_refl _) fun _ _ _ hb h => h.keep hk hb, h.lines.keep hk, h.handlers.imp (Nat.le_refl _) fun _ _ _ hb h => h.keep hk hb⟩
theorem FnV.mono {y : FVals} {x : FnP} (hB : B ≤ B') (h : FnV w B y x) : FnV w B' y x :=
 ⟨h.name, h.caps.imp hB fun _ _ _ _ h => h, h.consts.imp hB fun _ _ _ _ h => h, h.code.imp hB fun _ _ _ _ h => h, h.lines.mono hB, h.handlers.imp hB fun _ _ _ _ h => h⟩
theorem FnAt.keep {x : FnP} (hk : Same B w w') (hb : b < B) (h : FnAt w B b o x) : FnAt w' B b o x := by
 obtain ⟨y, h1, h2⟩ := h
 exact ⟨y, h1.keep hk, fun k hk' => (hk _ hb).trans (h2 k hk')⟩
theorem FnAt.mono {x : FnP} (hB : B ≤ B') (h : FnAt w B b o x) : FnAt w B' b o x := by
 obtain ⟨y, h1, h2⟩ := h
 exact ⟨y, h1.mono hB, h2⟩
theorem ProgV.keep {v : Value} {p : List FnP} (h : ProgV w B v p) (hk : Same B w w') : ProgV w' B v p := h.imp (Nat.le_refl _) fun _ _ _ hb h => h.keep hk hb
theorem ProgV.mono {v : Value} {p : List FnP} (h : ProgV w B v p) (hB : B ≤ B') : ProgV w B' v p := h.imp hB fun _ _ _ _ h => h.mono hB
theorem ProgV.later {v : Value} {p : List FnP} (h : ProgV w B v p) (hb : Below B w w') (hB : B ≤ w.heap.size) : ProgV w' w'.heap.size v p := ProgV.mono (ProgV.keep h (Same.of_below hb)) (Nat.le_trans hB hb.size)
theorem FnV.later {y : FVals} {x : FnP} (h : FnV w B y x) (hb : Below B w w') (hB : B ≤ w.heap.size) : FnV w' w'.heap.size y x := (h.keep (Same.of_below hb)).mono (Nat.le_trans hB hb.size)
end
/-- A function's value. -/
def fval (x : FnP) (y : FVals) : Value := .agg (fnCells x y)
/-- Some number, and only new memory written. -/
def SomeInt (w : World) (e : Ending) (w' : World) : Prop := ∃ N : Int, e = .returned (.int .i64 N) ∧ Below w.heap.size w w'
end Go.Proofs.YtkmfdiboekoioaaGreat

/- A graph that came in, read: as plain data that lies in memory. Conditions: the reach of the form (each slice of at most 2^47 bytes). -/
namespace Go.Proofs.YtkmfdiboekoioaaGreat
open Go.ChangeShapes Go.WideShapes Go.Deep

theorem at_lt {w : World} {a : Addr} {v : Value} (h : w.cell? a = some v) : a.block < w.heap.size := by
 rcases Nat.lt_or_ge a.block w.heap.size with hlt | hge
 ·exact hlt
 ·simp [World.cell?, Array.getElem?_eq_none hge] at h
theorem weights_mem_all {H : Type} {P : Program} {e : TypeId} {d : DataW H} {n : Nat} (hn : n ∈ d.weights P e) : ∀ {l : List (DataW H)}, d ∈ l → n ∈ DataW.weightsAll P e l
 | a :: l, hd => by
  simp only [DataW.weightsAll, List.mem_append]
  rcases List.mem_cons.1 hd with rfl | hd
  ·exact .inl hn
  ·exact .inr (weights_mem_all hn hd)
section
variable {H : Type} {enc : TypeId × Value → H} {W : World} {fuel : Nat}
theorem ints_read {v : Value} {x : DataW H × List MemPlace} (h : DataW.trod enc Tryz.prog W 0 (fun _ => true) true fuel 34 [v] = some x) (hw : ∀ n ∈ x.1.weights Tryz.prog 34, n ≤ reachBytes) : ∃ l, IntsV W W.heap.size v l := by
 have hby : Tryz.prog.bytesOf 3 = 8 := by kernel_rfl
 rcases open_ints Tryz.underlying34 Tryz.underlying3 (by kernel_rfl) h with ⟨hcs, _⟩ | ⟨a, len, cap, zs, hcs, _, hl, _, hz, hx, hcell, _⟩
 ·injection hcs with e _
  exact ⟨[], e ▸ IntsV.nil _ _⟩
 ·injection hcs with e _
  subst e
  simp only [if_true] at hz
  have hsz : cap ≤ lim := by
   have := hw ((zs.take len).length * 8 + (zs.drop len).length * 8) (by
    rw [hx]
    simp only [DataW.weights, Tryz.underlying34, hby, lits, List.length_map, List.mem_cons]
    exact .inl (by omega))
   rw [List.length_take, List.length_drop] at this
   unfold reachBytes at this
   unfold lim
   omega
  have hlen : (zs.take len).length = len := by rw [List.length_take]; omega
  refine ⟨zs.take len, some a, cap, by rw [hlen], by omega, by omega, fun h0 => ?_⟩
  obtain ⟨b, off, rfl, hc⟩ := ints_at hcell (by omega)
  refine ⟨b, off, rfl, at_lt (hc 0 (by omega)), fun j y hj => ?_⟩
  have hj' : j < len := by have := (List.getElem?_eq_some_iff.1 hj).1; omega
  rw [hc j (by omega)]
  rw [List.getElem?_take_of_lt hj'] at hj
  rw [List.getD_eq_getElem?_getD, hj]
  rfl
/-- A struct of one-cell fields, field by field. -/
theorem struct_read {P : Program} {t : TypeId} {fs : Array Field} {cs : List Value} {x : DataW H × List MemPlace} (ht : P.underlying t = some (.struct fs)) (hone : oneCellFields P fs = true)
  (h : DataW.trod enc P W 0 (fun _ => true) true fuel t cs = some x) (hw : ∀ n ∈ x.1.weights P t, n ≤ reachBytes) :
  ∃ n, ∀ (i : Nat) (f : Field) (v : Value), fs[i]? = some f → cs[i]? = some v → ∃ y, DataW.trod enc P W 0 (fun _ => true) true n f.type [v] = some y ∧ ∀ m ∈ y.1.weights P f.type, m ≤ reachBytes := by
 obtain ⟨xs, n, _, rfl, hl, hlen, hf⟩ := DataW.trod_struct ht h
 refine ⟨n, fun i f v hi hv => ?_⟩
 obtain ⟨o, k⟩ := hone_of hone i f hi
 have hlt : i < xs.length := by rw [hlen]; exact (Array.getElem?_eq_some_iff.1 hi).1
 have hd : (cs.drop f.offset).take (P.cellsOf f.type) = [v] := by
  rw [o, k]
  have hc : i < cs.length := (List.getElem?_eq_some_iff.1 hv).1
  rw [List.drop_eq_getElem_cons hc]
  have := (List.getElem?_eq_some_iff.1 hv).2
  simp [this]
 have := hf i f hi
 rw [hd, List.getElem?_eq_getElem hlt] at this
 refine ⟨_, this, fun m hm => hw m ?_⟩
 simp only [DataW.weights, ht]
 refine DataW.weights_mem_each (j := i) (t := f.type) (d := (xs[i]).1) ?_ ?_ m hm
 ·rw [List.getElem?_map, Array.getElem?_toList, hi]; rfl
 ·rw [List.getElem?_map, List.getElem?_eq_getElem hlt]; rfl
/-- A slice of parts, part by part. -/
theorem parts_read {α : Type} [Inhabited α] {At : Nat → Nat → α → Prop} {size : Nat} {P : Program} {t e : TypeId} {v : Value} {x : DataW H × List MemPlace} (ht : P.underlying t = some (.slice e)) (hc : P.cellsOf e = size) (h0 : 0 < size) (hby : 8 ≤ P.bytesOf e)
  (h : DataW.trod enc P W 0 (fun _ => true) true fuel t [v] = some x) (hw : ∀ n ∈ x.1.weights P t, n ≤ reachBytes)
  (hread : ∀ b o cs n y, b < W.heap.size → cs.length = size → (∀ k, k < size → W.cell? ⟨b, o + k, none⟩ = cs[k]?) → DataW.trod enc P W 0 (fun _ => true) true n e cs = some y → (∀ m ∈ y.1.weights P e, m ≤ reachBytes) → ∃ z, At b o z) :
  ∃ l, PartsV W.heap.size At size v l := by
 rcases open_slice ht h with ⟨hcs, _⟩ | ⟨a, len, cap, m, n, D, Pl, hcs, _, hl, _, hm, hx, hel⟩
 ·injection hcs with e1 _
  subst e1
  exact ⟨[], none, 0, rfl, by simp, by simp, fun h => by simp at h⟩
 ·injection hcs with e1 _
  subst e1
  simp only [if_true] at hm
  subst hm
  rw [hx] at hw
  simp only [DataW.weights, ht, List.length_map, List.length_range] at hw
  have hsz : m ≤ lim := by
   have h1 := hw _ (List.mem_cons_self ..)
   have h2 : (len + (m - len)) * 8 ≤ (len + (m - len)) * P.bytesOf e := Nat.mul_le_mul_left _ hby
   unfold reachBytes at h1
   unfold lim
   omega
  rcases Nat.eq_zero_or_pos len with hp | hp
  ·subst hp
   exact ⟨[], some a, m, rfl, by simp, by simp, fun h => by simp at h⟩
  obtain ⟨cs, h1, _⟩ := hel 0 (by omega)
  obtain ⟨_, h3, h4⟩ := World.cells?_some h1
  rw [hc] at h3 h4
  cases cs with
  | nil => simp at h3; omega
  | cons c0 cs =>
   have hs := World.cell?_spot (h4 0 h0)
   have hb := at_lt (h4 0 h0)
   obtain ⟨b, off, sp⟩ := a
   have hsp : sp = none := by
    simpa [Addr.add] using hs
   subst hsp
   have hb' : b < W.heap.size := by simpa [Addr.add] using hb
   have key : ∀ i, i < len → ∃ z : α, At b (off + i * size) z := fun i hi => by
    obtain ⟨cs', g1, g2⟩ := hel i (by omega)
    obtain ⟨_, g3, g4⟩ := World.cells?_some g1
    rw [hc] at g3 g4
    refine hread b (off + i * size) _ n _ hb' g3 (fun k hk => ?_) g2 (fun q hq => hw q (List.mem_cons_of_mem _ (List.mem_append_left _ (weights_mem_all hq (List.mem_map.2 ⟨i, List.mem_range.2 hi, rfl⟩)))))
    rw [← g4 k hk, add_plain, add_plain]
   obtain ⟨f, hf⟩ := choose_lt key
   have hlen : ((List.range len).map f).length = len := by simp
   refine ⟨(List.range len).map f, some ⟨b, off, none⟩, m, by rw [hlen], by omega, by omega, fun _ => ⟨b, off, rfl, hb', fun j y hj => ?_⟩⟩
   have hj' : j < len := by have := (List.getElem?_eq_some_iff.1 hj).1; omega
   have : f j = y := by
    rw [List.getElem?_map, List.getElem?_range hj'] at hj
    injection hj
   rw [← this]
   exact hf j hj'
end
end Go.Proofs.YtkmfdiboekoioaaGreat

/- A graph that came in, read: its nodes, blocks and states. Conditions: the reach of the form (each slice of at most 2^47 bytes). -/
namespace Go.Proofs.YtkmfdiboekoioaaGreat
open Go.ChangeShapes Go.WideShapes Go.Deep

instance : Inhabited NodeP := ⟨⟨0, [], 0, 0, 0⟩⟩
instance : Inhabited BlockP := ⟨⟨[], 0, [], [], [], 0⟩⟩
instance : Inhabited StateP := ⟨⟨0, []⟩⟩
theorem list5 {α : Type} {cs : List α} (h : cs.length = 5) : ∃ c0 c1 c2 c3 c4, cs = [c0, c1, c2, c3, c4] := by
 match cs, h with
 | [c0, c1, c2, c3, c4], _ => exact ⟨c0, c1, c2, c3, c4, rfl⟩
theorem list6 {α : Type} {cs : List α} (h : cs.length = 6) : ∃ c0 c1 c2 c3 c4 c5, cs = [c0, c1, c2, c3, c4, c5] := by
 match cs, h with
 | [c0, c1, c2, c3, c4, c5], _ => exact ⟨c0, c1, c2, c3, c4, c5, rfl⟩
theorem list2 {α : Type} {cs : List α} (h : cs.length = 2) : ∃ c0 c1, cs = [c0, c1] := by
 match cs, h with
 | [c0, c1], _ => exact ⟨c0, c1, rfl⟩
theorem one_eq {α : Type} {a b : α} (h : [a] = [b]) : a = b := by injection h
section
variable {H : Type} {enc : TypeId × Value → H} {W : World}
theorem block_read (b o : Nat) (cs : List Value) (n : Nat) (y : DataW H × List MemPlace) (_ : b < W.heap.size) (hlen : cs.length = 6) (hcell : ∀ k, k < 6 → W.cell? ⟨b, o + k, none⟩ = cs[k]?)
  (h : DataW.trod enc Tryz.prog W 0 (fun _ => true) true n 41 cs = some y) (hw : ∀ m ∈ y.1.weights Tryz.prog 41, m ≤ reachBytes) : ∃ z, BlockAt W W.heap.size b o z := by
 obtain ⟨c0, c1, c2, c3, c4, c5, rfl⟩ := list6 hlen
 obtain ⟨n1, hf⟩ := struct_read Tryz.underlying41 (by kernel_rfl) h hw
 obtain ⟨y0, g0, w0⟩ := hf 0 _ c0 rfl rfl
 obtain ⟨y1, g1, _⟩ := hf 1 _ c1 rfl rfl
 obtain ⟨y2, g2, w2⟩ := hf 2 _ c2 rfl rfl
 obtain ⟨y3, g3, w3⟩ := hf 3 _ c3 rfl rfl
 obtain ⟨y4, g4, w4⟩ := hf 4 _ c4 rfl rfl
 obtain ⟨y5, g5, _⟩ := hf 5 _ c5 rfl rfl
 obtain ⟨l0, i0⟩ := ints_read g0 w0
 obtain ⟨a1, e1, _⟩ := DataW.trod_int Tryz.underlying39 g1
 obtain ⟨l2, i2⟩ := ints_read g2 w2
 obtain ⟨l3, i3⟩ := ints_read g3 w3
 obtain ⟨l4, i4⟩ := ints_read g4 w4
 obtain ⟨a5, e5, _⟩ := DataW.trod_int Tryz.underlying3 g5
 have q1 := one_eq e1; have q5 := one_eq e5
 subst q1 q5
 exact ⟨⟨l0, a1, l2, l3, l4, a5⟩, ⟨c0, hcell 0 (by omega), i0⟩, hcell 1 (by omega), ⟨c2, hcell 2 (by omega), i2⟩, ⟨c3, hcell 3 (by omega), i3⟩, ⟨c4, hcell 4 (by omega), i4⟩, hcell 5 (by omega)⟩
theorem state_read (b o : Nat) (cs : List Value) (n : Nat) (y : DataW H × List MemPlace) (_ : b < W.heap.size) (hlen : cs.length = 2) (hcell : ∀ k, k < 2 → W.cell? ⟨b, o + k, none⟩ = cs[k]?)
  (h : DataW.trod enc Tryz.prog W 0 (fun _ => true) true n 108 cs = some y) (hw : ∀ m ∈ y.1.weights Tryz.prog 108, m ≤ reachBytes) : ∃ z, StateAt W W.heap.size b o z := by
 obtain ⟨c0, c1, rfl⟩ := list2 hlen
 obtain ⟨n1, hf⟩ := struct_read Tryz.underlying108 (by kernel_rfl) h hw
 obtain ⟨y0, g0, _⟩ := hf 0 _ c0 rfl rfl
 obtain ⟨y1, g1, w1⟩ := hf 1 _ c1 rfl rfl
 obtain ⟨a0, e0, _⟩ := DataW.trod_int Tryz.underlying3 g0
 obtain ⟨l1, i1⟩ := ints_read g1 w1
 have q0 := one_eq e0
 subst q0
 exact ⟨⟨a0, l1⟩, hcell 0 (by omega), ⟨c1, hcell 1 (by omega), i1⟩⟩
end
end Go.Proofs.YtkmfdiboekoioaaGreat

/- A program that came in, read; a graph, with what its nodes' ops are. Conditions: the reach of the form (each slice of at most 2^47 bytes). -/
namespace Go.Proofs.YtkmfdiboekoioaaGreat
open Go.ChangeShapes Go.WideShapes Go.Deep

instance : Inhabited CapP := ⟨⟨false, 0⟩⟩
instance : Inhabited ConstP := ⟨⟨0, 0, ByteArray.empty⟩⟩
instance : Inhabited InsP := ⟨⟨0, 0⟩⟩
instance : Inhabited HandlerP := ⟨⟨0, 0, 0, 0⟩⟩
instance : Inhabited FnP := ⟨⟨ByteArray.empty, 0, 0, [], [], [], [], []⟩⟩
theorem list3 {α : Type} {cs : List α} (h : cs.length = 3) : ∃ c0 c1 c2, cs = [c0, c1, c2] := by
 match cs, h with
 | [c0, c1, c2], _ => exact ⟨c0, c1, c2, rfl⟩
theorem list4 {α : Type} {cs : List α} (h : cs.length = 4) : ∃ c0 c1 c2 c3, cs = [c0, c1, c2, c3] := by
 match cs, h with
 | [c0, c1, c2, c3], _ => exact ⟨c0, c1, c2, c3, rfl⟩
theorem list8 {α : Type} {cs : List α} (h : cs.length = 8) : ∃ c0 c1 c2 c3 c4 c5 c6 c7, cs = [c0, c1, c2, c3, c4, c5, c6, c7] := by
 match cs, h with
 | [c0, c1, c2, c3, c4, c5, c6, c7], _ => exact ⟨c0, c1, c2, c3, c4, c5, c6, c7, rfl⟩
theorem wf_u8 {n : Int} (h : (Lit.int .u8 n).wf = true) : 0 ≤ n ∧ n ≤ 255 := by
 simp only [Lit.wf, Bool.and_eq_true, decide_eq_true_eq] at h
 have e1 : IntKind.u8.min = 0 := by first | rfl | decide
 have e2 : IntKind.u8.max = 255 := by first | rfl | decide
 rw [e1, e2] at h
 exact h
theorem wf_i64 {n : Int} (h : (Lit.int .i64 n).wf = true) : -9223372036854775808 ≤ n := by
 simp only [Lit.wf, Bool.and_eq_true, decide_eq_true_eq] at h
 have e1 : IntKind.i64.min = -9223372036854775808 := by first | rfl | decide
 rw [e1] at h
 exact h.1
section
variable {H : Type} {enc : TypeId × Value → H} {W : World}
theorem str_size {t : TypeId} {x : DataW H × List MemPlace} {s : ByteArray} (e : x = (.lit (.string s.data.toList), [])) (hw : ∀ m ∈ x.1.weights Tryz.prog t, m ≤ reachBytes) : s.size ≤ 140737488355328 := by
 subst e
 have h := hw s.data.toList.length (List.mem_singleton.2 rfl)
 have e : s.size = s.data.toList.length := rfl
 rw [e]
 unfold reachBytes at h
 omega
theorem cap_read (b o : Nat) (cs : List Value) (n : Nat) (y : DataW H × List MemPlace) (_ : b < W.heap.size) (hlen : cs.length = 2) (hcell : ∀ k, k < 2 → W.cell? ⟨b, o + k, none⟩ = cs[k]?)
  (h : DataW.trod enc Tryz.prog W 0 (fun _ => true) true n 211 cs = some y) (hw : ∀ m ∈ y.1.weights Tryz.prog 211, m ≤ reachBytes) : ∃ z, CapAt W b o z := by
 obtain ⟨c0, c1, rfl⟩ := list2 hlen
 obtain ⟨n1, hf⟩ := struct_read Tryz.underlying211 (by kernel_rfl) h hw
 obtain ⟨y0, g0, _⟩ := hf 0 _ c0 rfl rfl
 obtain ⟨y1, g1, _⟩ := hf 1 _ c1 rfl rfl
 obtain ⟨a0, e0, _⟩ := DataW.trod_bool Tryz.underlying4 g0
 obtain ⟨a1, e1, _⟩ := DataW.trod_int Tryz.underlying3 g1
 have q0 := one_eq e0; have q1 := one_eq e1
 subst q0 q1
 exact ⟨⟨a0, a1⟩, hcell 0 (by omega), hcell 1 (by omega)⟩
theorem ins_read (b o : Nat) (cs : List Value) (n : Nat) (y : DataW H × List MemPlace) (_ : b < W.heap.size) (hlen : cs.length = 2) (hcell : ∀ k, k < 2 → W.cell? ⟨b, o + k, none⟩ = cs[k]?)
  (h : DataW.trod enc Tryz.prog W 0 (fun _ => true) true n 117 cs = some y) (hw : ∀ m ∈ y.1.weights Tryz.prog 117, m ≤ reachBytes) : ∃ z, InsAt W b o z := by
 obtain ⟨c0, c1, rfl⟩ := list2 hlen
 obtain ⟨n1, hf⟩ := struct_read Tryz.underlying117 (by kernel_rfl) h hw
 obtain ⟨y0, g0, _⟩ := hf 0 _ c0 rfl rfl
 obtain ⟨y1, g1, _⟩ := hf 1 _ c1 rfl rfl
 obtain ⟨a0, e0, _, w0⟩ := DataW.trod_int Tryz.underlying115 g0
 obtain ⟨a1, e1, _⟩ := DataW.trod_int Tryz.underlying3 g1
 have q0 := one_eq e0; have q1 := one_eq e1
 subst q0 q1
 exact ⟨⟨a0, a1⟩, hcell 0 (by omega), hcell 1 (by omega), wf_u8 w0⟩
theorem const_read (b o : Nat) (cs : List Value) (n : Nat) (y : DataW H × List MemPlace) (_ : b < W.heap.size) (hlen : cs.length = 3) (hcell : ∀ k, k < 3 → W.cell? ⟨b, o + k, none⟩ = cs[k]?)
  (h : DataW.trod enc Tryz.prog W 0 (fun _ => true) true n 159 cs = some y) (hw : ∀ m ∈ y.1.weights Tryz.prog 159, m ≤ reachBytes) : ∃ z, ConstAt W b o z := by
 obtain ⟨c0, c1, c2, rfl⟩ := list3 hlen
 obtain ⟨n1, hf⟩ := struct_read Tryz.underlying159 (by kernel_rfl) h hw
 obtain ⟨y0, g0, _⟩ := hf 0 _ c0 rfl rfl
 obtain ⟨y1, g1, _⟩ := hf 1 _ c1 rfl rfl
 obtain ⟨y2, g2, ws⟩ := hf 2 _ c2 rfl rfl
 obtain ⟨a0, e0, _⟩ := DataW.trod_int Tryz.underlying66 g0
 obtain ⟨a1, e1, _⟩ := DataW.trod_int Tryz.underlying2 g1
 obtain ⟨a2, e2, es, _⟩ := DataW.trod_string Tryz.underlying9 g2
 have q0 := one_eq e0; have q1 := one_eq e1; have q2 := one_eq e2
 subst q0 q1 q2
 exact ⟨⟨a0, a1, a2⟩, hcell 0 (by omega), hcell 1 (by omega), hcell 2 (by omega), str_size es ws⟩
theorem handler_read (b o : Nat) (cs : List Value) (n : Nat) (y : DataW H × List MemPlace) (_ : b < W.heap.size) (hlen : cs.length = 4) (hcell : ∀ k, k < 4 → W.cell? ⟨b, o + k, none⟩ = cs[k]?)
  (h : DataW.trod enc Tryz.prog W 0 (fun _ => true) true n 161 cs = some y) (hw : ∀ m ∈ y.1.weights Tryz.prog 161, m ≤ reachBytes) : ∃ z, HandlerAt W b o z := by
 obtain ⟨c0, c1, c2, c3, rfl⟩ := list4 hlen
 obtain ⟨n1, hf⟩ := struct_read Tryz.underlying161 (by kernel_rfl) h hw
 obtain ⟨y0, g0, _⟩ := hf 0 _ c0 rfl rfl
 obtain ⟨y1, g1, _⟩ := hf 1 _ c1 rfl rfl
 obtain ⟨y2, g2, _⟩ := hf 2 _ c2 rfl rfl
 obtain ⟨y3, g3, _⟩ := hf 3 _ c3 rfl rfl
 obtain ⟨a0, e0, _⟩ := DataW.trod_int Tryz.underlying3 g0
 obtain ⟨a1, e1, _⟩ := DataW.trod_int Tryz.underlying3 g1
 obtain ⟨a2, e2, _⟩ := DataW.trod_int Tryz.underlying3 g2
 obtain ⟨a3, e3, _⟩ := DataW.trod_int Tryz.underlying3 g3
 have q0 := one_eq e0; have q1 := one_eq e1; have q2 := one_eq e2; have q3 := one_eq e3
 subst q0 q1 q2 q3
 exact ⟨⟨a0, a1, a2, a3⟩, hcell 0 (by omega), hcell 1 (by omega), hcell 2 (by omega), hcell 3 (by omega)⟩
theorem fn_read (b o : Nat) (cs : List Value) (n : Nat) (y : DataW H × List MemPlace) (_ : b < W.heap.size) (hlen : cs.length = 8) (hcell : ∀ k, k < 8 → W.cell? ⟨b, o + k, none⟩ = cs[k]?)
  (h : DataW.trod enc Tryz.prog W 0 (fun _ => true) true n 56 cs = some y) (hw : ∀ m ∈ y.1.weights Tryz.prog 56, m ≤ reachBytes) : ∃ z, FnAt W W.heap.size b o z ∧ -9223372036854775808 ≤ z.locals := by
 obtain ⟨c0, c1, c2, c3, c4, c5, c6, c7, rfl⟩ := list8 hlen
 obtain ⟨n1, hf⟩ := struct_read Tryz.underlying56 (by kernel_rfl) h hw
 obtain ⟨y0, g0, ws⟩ := hf 0 _ c0 rfl rfl
 obtain ⟨y1, g1, _⟩ := hf 1 _ c1 rfl rfl
 obtain ⟨y2, g2, _⟩ := hf 2 _ c2 rfl rfl
 obtain ⟨y3, g3, w3⟩ := hf 3 _ c3 rfl rfl
 obtain ⟨y4, g4, w4⟩ := hf 4 _ c4 rfl rfl
 obtain ⟨y5, g5, w5⟩ := hf 5 _ c5 rfl rfl
 obtain ⟨y6, g6, w6⟩ := hf 6 _ c6 rfl rfl
 obtain ⟨y7, g7, w7⟩ := hf 7 _ c7 rfl rfl
 obtain ⟨a0, e0, es, _⟩ := DataW.trod_string Tryz.underlying9 g0
 obtain ⟨a1, e1, _⟩ := DataW.trod_int Tryz.underlying3 g1
 obtain ⟨a2, e2, _, wl⟩ := DataW.trod_int Tryz.underlying3 g2
 have q0 := one_eq e0; have q1 := one_eq e1; have q2 := one_eq e2
 subst q0 q1 q2
 obtain ⟨l3, h3⟩ := parts_read (At := CapAt W) (size := 2) Tryz.underlying51 (by kernel_rfl) (by omega) (of_decide_eq_true (by kernel_rfl)) g3 w3 cap_read
 obtain ⟨l4, h4⟩ := parts_read (At := ConstAt W) (size := 3) Tryz.underlying52 (by kernel_rfl) (by omega) (of_decide_eq_true (by kernel_rfl)) g4 w4 const_read
 obtain ⟨l5, h5⟩ := parts_read (At := InsAt W) (size := 2) Tryz.underlying53 (by kernel_rfl) (by omega) (of_decide_eq_true (by kernel_rfl)) g5 w5 ins_read
 obtain ⟨l6, h6⟩ := ints_read g6 w6
 obtain ⟨l7, h7⟩ := parts_read (At := HandlerAt W) (size := 4) Tryz.underlying54 (by kernel_rfl) (by omega) (of_decide_eq_true (by kernel_rfl)) g7 w7 handler_read
 refine ⟨⟨a0, a1, a2, l3, l4, l5, l6, l7⟩, ⟨⟨c3, c4, c5, c6, c7⟩, ⟨str_size es ws, h3, h4, h5, h6, h7⟩, fun k hk => ?_⟩, wf_i64 wl⟩
 rw [hcell k hk]
 match k, hk with
 | 0, _ => rfl
 | 1, _ => rfl
 | 2, _ => rfl
 | 3, _ => rfl
 | 4, _ => rfl
 | 5, _ => rfl
 | 6, _ => rfl
 | 7, _ => rfl
theorem parts_all {α : Type} {B : Nat} {At : Nat → Nat → α → Prop} {P : α → Prop} {size : Nat} {v : Value} {l : List α} (h : PartsV B (fun b o z => At b o z ∧ P z) size v l) : PartsV B At size v l ∧ ∀ z ∈ l, P z := by
 refine ⟨h.imp (Nat.le_refl _) (fun _ _ _ _ h => h.1), fun z hz => ?_⟩
 obtain ⟨A, c, _, _, _, h⟩ := h
 obtain ⟨j, hj⟩ := List.mem_iff_getElem?.1 hz
 obtain ⟨b, off, _, _, h⟩ := h (by have := (List.getElem?_eq_some_iff.1 hj).1; omega)
 exact (h j z hj).2
set_option maxRecDepth 100000 in
theorem prog_read {r : Reach} {b0 : Nat} {v : Value} {d : DataW H} {p : List MemPlace} (hv : Value.okWide Tryz.prog W r b0 23 v) (h : DataW.Trod enc Tryz.prog W 0 (fun _ => true) true 23 v d p) (hw : ∀ n ∈ d.weights Tryz.prog 23, n ≤ reachBytes) :
  ∃ fs, ProgV W W.heap.size v fs ∧ ∀ f ∈ fs, -9223372036854775808 ≤ f.locals := by
 obtain ⟨a, len, cap, rfl⟩ := okWide_slice Tryz.underlying23 hv
 obtain ⟨fuel, hf⟩ := h
 have hf' : DataW.trod enc Tryz.prog W 0 (fun _ => true) true fuel 23 [.slice a len cap] = some (d, p) := by simpa [Value.cells] using hf
 obtain ⟨l, h1⟩ := parts_read (At := fun b o z => FnAt W W.heap.size b o z ∧ -9223372036854775808 ≤ z.locals) (size := 8) Tryz.underlying23 (by kernel_rfl) (by omega) (of_decide_eq_true (by kernel_rfl)) hf' hw fn_read
 obtain ⟨q1, q2⟩ := parts_all (At := FnAt W W.heap.size) (P := fun z => -9223372036854775808 ≤ z.locals) h1
 exact ⟨l, q1, q2⟩
theorem node_read8 (b o : Nat) (cs : List Value) (n : Nat) (y : DataW H × List MemPlace) (_ : b < W.heap.size) (hlen : cs.length = 5) (hcell : ∀ k, k < 5 → W.cell? ⟨b, o + k, none⟩ = cs[k]?)
  (h : DataW.trod enc Tryz.prog W 0 (fun _ => true) true n 68 cs = some y) (hw : ∀ m ∈ y.1.weights Tryz.prog 68, m ≤ reachBytes) : ∃ z, NodeAt W W.heap.size b o z ∧ (0 ≤ z.op ∧ z.op ≤ 255) := by
 obtain ⟨c0, c1, c2, c3, c4, rfl⟩ := list5 hlen
 obtain ⟨n1, hf⟩ := struct_read Tryz.underlying68 (by kernel_rfl) h hw
 obtain ⟨y0, g0, _⟩ := hf 0 _ c0 rfl rfl
 obtain ⟨y1, g1, w1⟩ := hf 1 _ c1 rfl rfl
 obtain ⟨y2, g2, _⟩ := hf 2 _ c2 rfl rfl
 obtain ⟨y3, g3, _⟩ := hf 3 _ c3 rfl rfl
 obtain ⟨y4, g4, _⟩ := hf 4 _ c4 rfl rfl
 obtain ⟨a0, e0, _, w0⟩ := DataW.trod_int Tryz.underlying65 g0
 obtain ⟨l1, i1⟩ := ints_read g1 w1
 obtain ⟨a2, e2, _⟩ := DataW.trod_int Tryz.underlying2 g2
 obtain ⟨a3, e3, _⟩ := DataW.trod_int Tryz.underlying66 g3
 obtain ⟨a4, e4, _⟩ := DataW.trod_int Tryz.underlying3 g4
 have q0 := one_eq e0; have q2 := one_eq e2; have q3 := one_eq e3; have q4 := one_eq e4
 subst q0 q2 q3 q4
 exact ⟨⟨a0, l1, a2, a3, a4⟩, ⟨hcell 0 (by omega), ⟨c1, hcell 1 (by omega), i1⟩, hcell 2 (by omega), hcell 3 (by omega), hcell 4 (by omega)⟩, wf_u8 w0⟩
set_option maxRecDepth 100000 in
theorem graph_read8 {r : Reach} {b0 : Nat} {v : Value} {d : DataW H} {p : List MemPlace} (hv : Value.okWide Tryz.prog W r b0 28 v) (h : DataW.Trod enc Tryz.prog W 0 (fun _ => true) true 28 v d p)
  (hw : ∀ n ∈ d.weights Tryz.prog 28, n ≤ reachBytes) : ∃ g xv, v = gval g xv ∧ GraphV W W.heap.size xv g ∧ ∀ y ∈ g.nodes, 0 ≤ y.op ∧ y.op ≤ 255 := by
 obtain ⟨cs, rfl, hsz⟩ := okWide_struct Tryz.underlying28 hv
 have hC : Tryz.prog.cellsOf 28 = 6 := by kernel_rfl
 obtain ⟨fuel, hf⟩ := h
 have hf' : DataW.trod enc Tryz.prog W 0 (fun _ => true) true fuel 28 cs.toList = some (d, p) := by simpa [Value.cells] using hf
 obtain ⟨c0, c1, c2, c3, c4, c5, hcs⟩ := list6 (cs := cs.toList) (by rw [Array.length_toList, hsz, hC])
 rw [hcs] at hf'
 have ecs : cs = #[c0, c1, c2, c3, c4, c5] := by
  have := congrArg List.toArray hcs
  simpa using this
 subst ecs
 obtain ⟨n1, hq⟩ := struct_read Tryz.underlying28 (by kernel_rfl) hf' hw
 obtain ⟨y0, g0, _⟩ := hq 0 _ c0 rfl rfl
 obtain ⟨y1, g1, _⟩ := hq 1 _ c1 rfl rfl
 obtain ⟨y2, g2, _⟩ := hq 2 _ c2 rfl rfl
 obtain ⟨y3, g3, w3⟩ := hq 3 _ c3 rfl rfl
 obtain ⟨y4, g4, w4⟩ := hq 4 _ c4 rfl rfl
 obtain ⟨y5, g5, w5⟩ := hq 5 _ c5 rfl rfl
 obtain ⟨a0, e0, _⟩ := DataW.trod_int Tryz.underlying3 g0
 obtain ⟨a1, e1, _⟩ := DataW.trod_int Tryz.underlying3 g1
 obtain ⟨a2, e2, _⟩ := DataW.trod_int Tryz.underlying3 g2
 have q0 := one_eq e0; have q1 := one_eq e1; have q2 := one_eq e2
 subst q0 q1 q2
 obtain ⟨ln, hn⟩ := parts_read (At := fun b o z => NodeAt W W.heap.size b o z ∧ (0 ≤ z.op ∧ z.op ≤ 255)) (size := 5) Tryz.underlying24 (by kernel_rfl) (by omega) (of_decide_eq_true (by kernel_rfl)) g3 w3 node_read8
 obtain ⟨hn1, hn2⟩ := parts_all (At := NodeAt W W.heap.size) (P := fun z => 0 ≤ z.op ∧ z.op ≤ 255) hn
 obtain ⟨lb, hb⟩ := parts_read (At := BlockAt W W.heap.size) (size := 6) Tryz.underlying25 (by kernel_rfl) (by omega) (of_decide_eq_true (by kernel_rfl)) g4 w4 block_read
 obtain ⟨ls, hs⟩ := parts_read (At := StateAt W W.heap.size) (size := 2) Tryz.underlying26 (by kernel_rfl) (by omega) (of_decide_eq_true (by kernel_rfl)) g5 w5 state_read
 exact ⟨⟨a0, a1, a2, ln, lb, ls⟩, ⟨c3, c4, c5⟩, rfl, ⟨hn1, hb, hs⟩, hn2⟩
end
end Go.Proofs.YtkmfdiboekoioaaGreat
