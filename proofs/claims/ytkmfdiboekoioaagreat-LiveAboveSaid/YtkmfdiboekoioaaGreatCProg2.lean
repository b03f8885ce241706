/- A program (functions of code) as plain data that lies in memory. No condition. -/
import Derived.Test.YtkmfdiboekoioaaGreatCBase
import Derived.Test.YtkmfdiboekoioaaGreatChecked
import Derived.Test.YtkmfdiboekoioaaGreatRows
import Derived.WalkKit
import Derived.WalkSpells
import Derived.WalkLawsBesides
import Derived.Outline
import Derived.Lib.Hide
set_option linter.unusedSimpArgs false
set_option linter.unusedVariables false
namespace Go.Proofs.YtkmfdiboekoioaaGreat
open Go.RowKit

structure CapP where
  up : Bool
  n : Int
structure ConstP where
  kind : Int
  n : Int
  s : ByteArray
structure InsP where
  op : Int
  a : Int
structure HandlerP where
  from_ : Int
  to_ : Int
  at_ : Int
  deep : Int
structure FnP where
  name : ByteArray
  params : Int
  locals : Int
  caps : List CapP
  consts : List ConstP
  code : List InsP
  lines : List Int
  handlers : List HandlerP

def CapAt (w : World) (b o : Nat) (x : CapP) : Prop := w.cell? ⟨b, o, none⟩ = some (.bool x.up) ∧ w.cell? ⟨b, o + 1, none⟩ = some (.int .i64 x.n)
def ConstAt (w : World) (b o : Nat) (x : ConstP) : Prop := w.cell? ⟨b, o, none⟩ = some (.int .u8 x.kind) ∧ w.cell? ⟨b, o + 1, none⟩ = some (.int .i64 x.n) ∧ w.cell? ⟨b, o + 2, none⟩ = some (.string x.s) ∧ x.s.size ≤ 140737488355328
def InsAt (w : World) (b o : Nat) (x : InsP) : Prop := w.cell? ⟨b, o, none⟩ = some (.int .u8 x.op) ∧ w.cell? ⟨b, o + 1, none⟩ = some (.int .i64 x.a) ∧ (0 ≤ x.op ∧ x.op ≤ 255)
def HandlerAt (w : World) (b o : Nat) (x : HandlerP) : Prop := w.cell? ⟨b, o, none⟩ = some (.int .i64 x.from_) ∧ w.cell? ⟨b, o + 1, none⟩ = some (.int .i64 x.to_) ∧ w.cell? ⟨b, o + 2, none⟩ = some (.int .i64 x.at_) ∧ w.cell? ⟨b, o + 3, none⟩ = some (.int .i64 x.deep)
abbrev CapsV (w : World) (B : Nat) := PartsV B (CapAt w) 2
abbrev ConstsV (w : World) (B : Nat) := PartsV B (ConstAt w) 3
abbrev InsesV (w : World) (B : Nat) := PartsV B (InsAt w) 2
abbrev HandlersV (w : World) (B : Nat) := PartsV B (HandlerAt w) 4
/-- The values of a function's slices. -/
structure FVals where
  c3 : Value
  c4 : Value
  c5 : Value
  c6 : Value
  c7 : Value
structure FnV (w : World) (B : Nat) (y : FVals) (x : FnP) : Prop where
  name : x.name.size ≤ 140737488355328
  caps : CapsV w B y.c3 x.caps
  consts : ConstsV w B y.c4 x.consts
  code : InsesV w B y.c5 x.code
  lines : IntsV w B y.c6 x.lines
  handlers : HandlersV w B y.c7 x.handlers
def fnCells (x : FnP) (y : FVals) : Array Value := #[.string x.name, .int .i64 x.params, .int .i64 x.locals, y.c3, y.c4, y.c5, y.c6, y.c7]
def FnAt (w : World) (B b o : Nat) (x : FnP) : Prop := ∃ y, FnV w B y x ∧ ∀ k, k < 8 → w.cell? ⟨b, o + k, none⟩ = (fnCells x y)[k]?
abbrev ProgV (w : World) (B : Nat) := PartsV B (FnAt w B) 8

section
variable {w w' : World} {B B' b o : Nat}
theorem CapAt.keep {x : CapP} (hk : Same B w w') (hb : b < B) (h : CapAt w b o x) : CapAt w' b o x := ⟨(hk _ hb).trans h.1, (hk _ hb).trans h.2⟩
theorem ConstAt.keep {x : ConstP} (hk : Same B w w') (hb : b < B) (h : ConstAt w b o x) : ConstAt w' b o x := ⟨(hk _ hb).trans h.1, (hk _ hb).trans h.2.1, (hk _ hb).trans h.2.2.1, h.2.2.2⟩
theorem InsAt.keep {x : InsP} (hk : Same B w w') (hb : b < B) (h : InsAt w b o x) : InsAt w' b o x := ⟨(hk _ hb).trans h.1, (hk _ hb).trans h.2.1, h.2.2⟩
theorem HandlerAt.keep {x : HandlerP} (hk : Same B w w') (hb : b < B) (h : HandlerAt w b o x) : HandlerAt w' b o x := ⟨(hk _ hb).trans h.1, (hk _ hb).trans h.2.1, (hk _ hb).trans h.2.2.1, (hk _ hb).trans h.2.2.2⟩
theorem FnV.keep {y : FVals} {x : FnP} (hk : Same B w w') (h : FnV w B y x) : FnV w' B y x :=
  ⟨h.name, h.caps.imp (Nat.le_refl _) fun _ _ _ hb h => h.keep hk hb, h.consts.imp (Nat.le_refl _) fun _ _ _ hb h => h.keep hk hb, h.code.imp (Nat.le_refl _) fun _ _ _ hb h => h.keep hk hb, h.lines.keep hk, h.handlers.imp (Nat.le_refl _) fun _ _ _ hb h => h.keep hk hb⟩
theorem FnV.mono {y : FVals} {x : FnP} (hB : B ≤ B') (h : FnV w B y x) : FnV w B' y x :=
  ⟨h.name, h.caps.imp hB fun _ _ _ _ h => h, h.consts.imp hB fun _ _ _ _ h => h, h.code.imp hB fun _ _ _ _ h => h, h.lines.mono hB, h.handlers.imp hB fun _ _ _ _ h => h⟩
theorem FnAt.keep {x : FnP} (hk : Same B w w') (hb : b < B) (h : FnAt w B b o x) : FnAt w' B b o x := by
  obtain ⟨y, h1, h2⟩ := h
  exact ⟨y, h1.keep hk, fun k hk' => (hk _ hb).trans (h2 k hk')⟩
theorem FnAt.mono {x : FnP} (hB : B ≤ B') (h : FnAt w B b o x) : FnAt w B' b o x := by
  obtain ⟨y, h1, h2⟩ := h
  exact ⟨y, h1.mono hB, h2⟩
theorem ProgV.keep {v : Value} {p : List FnP} (h : ProgV w B v p) (hk : Same B w w') : ProgV w' B v p := h.imp (Nat.le_refl _) fun _ _ _ hb h => h.keep hk hb
theorem ProgV.mono {v : Value} {p : List FnP} (h : ProgV w B v p) (hB : B ≤ B') : ProgV w B' v p := h.imp hB fun _ _ _ _ h => h.mono hB
theorem ProgV.later {v : Value} {p : List FnP} (h : ProgV w B v p) (hb : Below B w w') (hB : B ≤ w.heap.size) : ProgV w' w'.heap.size v p := ProgV.mono (ProgV.keep h (Same.of_below hb)) (Nat.le_trans hB hb.size)
theorem FnV.later {y : FVals} {x : FnP} (h : FnV w B y x) (hb : Below B w w') (hB : B ≤ w.heap.size) : FnV w' w'.heap.size y x := (h.keep (Same.of_below hb)).mono (Nat.le_trans hB hb.size)
end
/-- A function's value. -/
def fval (x : FnP) (y : FVals) : Value := .agg (fnCells x y)
/-- Some number, and only new memory written. -/
def SomeInt (w : World) (e : Ending) (w' : World) : Prop := ∃ N : Int, e = .returned (.int .i64 N) ∧ Below w.heap.size w w'
end Go.Proofs.YtkmfdiboekoioaaGreat

/- gearboxlaw01.ProgramSize answers some number and writes nothing that was there. Conditions: a program that lies in memory. -/
namespace Go.Proofs.YtkmfdiboekoioaaGreat
open Go.RowKit
def SameInt (w : World) (e : Ending) (w' : World) : Prop := ∃ N : Int, e = .returned (.int .i64 N) ∧ w = w'
theorem getL {α : Type} {l : List α} {k : Nat} (h : k < l.length) : ∃ x, l[k]? = some x := ⟨l[k], List.getElem?_eq_getElem h⟩
theorem capsSize_any (a : Option Addr) (n c : Nat) (w : World) : Calls Tryz.prog 101 #[.slice a n c] w (SameInt w) := by
  go_enter Tryz.func101, Tryz.ntmps101
  go_wp2
  go_ret
  exact ⟨_, rfl, rfl⟩
theorem insesSize_any (a : Option Addr) (n c : Nat) (w : World) : Calls Tryz.prog 103 #[.slice a n c] w (SameInt w) := by
  go_enter Tryz.func103, Tryz.ntmps103
  go_wp2
  go_ret
  exact ⟨_, rfl, rfl⟩
theorem intsSize_any (a : Option Addr) (n c : Nat) (w : World) : Calls Tryz.prog 104 #[.slice a n c] w (SameInt w) := by
  go_enter Tryz.func104, Tryz.ntmps104
  go_wp2
  go_ret
  exact ⟨_, rfl, rfl⟩
theorem handlersSize_any (a : Option Addr) (n c : Nat) (w : World) : Calls Tryz.prog 105 #[.slice a n c] w (SameInt w) := by
  go_enter Tryz.func105, Tryz.ntmps105
  go_wp2
  go_ret
  exact ⟨_, rfl, rfl⟩
set_option maxHeartbeats 1000000 in
theorem constsSize_any (v : Value) (l : List ConstP) (w : World) (hw : ConstsV w w.heap.size v l) : Calls Tryz.prog 102 #[v] w (SameInt w) := by
  obtain ⟨A, c, rfl, _hc, hl, hw⟩ := hw
  have hlim : l.length ≤ 17592186044416 := by unfold lim at hl; omega
  clear hl
  have HW := Lib.hid hw; clear hw
  go_enter Tryz.func102, Tryz.ntmps102
  go_wp2
  go_loopw [3, 4] (fun t i wr => ∃ (k : Nat) (N : Int), k ≤ l.length ∧ i = .int .i64 k ∧ t = .int .i64 N ∧ w = wr) (fun _ i _ => l.length - (intOf i).toNat)
  case atStart => exact ⟨0, _, Nat.zero_le _, rfl, rfl, rfl⟩
  case round =>
    obtain ⟨k, N, hk, rfl, rfl, rfl⟩ := hrel
    by_cases hlt : k < l.length
    · obtain ⟨b, off, rfl, hbB, hp⟩ := HW.out (by omega)
      obtain ⟨x, hx⟩ := getL hlt
      obtain ⟨f0, f1, f2, f3⟩ := hp k x hx
      clear hp HW hx
      by_cases hm : N ≤ 1048576
      · go_wp2
        go_roundw
        case rel => exact ⟨k + 1, _, by omega, by go_num, rfl, trivial⟩
        case measure => simp [intOf]; omega
      · go_wp2
        go_ret
        exact ⟨N, rfl, rfl⟩
    · go_wp2
      go_ret
      exact ⟨N, rfl, rfl⟩
set_option maxHeartbeats 2000000 in
theorem fnSize_any (x : FnP) (y : FVals) (w : World) (hf : FnV w w.heap.size y x) : Calls Tryz.prog 56 #[fval x y] w (SomeInt w) := by
  obtain ⟨y3, y4, y5, y6, y7⟩ := y
  have HF := Lib.hid hf
  obtain ⟨hn, ⟨A3, c3, e3, z3⟩, ⟨A4, c4, e4, z4⟩, ⟨A5, c5, e5, z5⟩, ⟨A6, c6, e6, z6⟩, ⟨A7, c7, e7, z7⟩⟩ := hf
  clear z3 z4 z5 z6 z7
  simp only at e3 e4 e5 e6 e7
  subst e3 e4 e5 e6 e7
  have HCn : Hid (ConstsV (w.alloc (.cells (fnCells x ⟨.slice A3 x.caps.length c3, .slice A4 x.consts.length c4, .slice A5 x.code.length c5, .slice A6 x.lines.length c6, .slice A7 x.handlers.length c7⟩) 56)) (w.alloc (.cells (fnCells x ⟨.slice A3 x.caps.length c3, .slice A4 x.consts.length c4, .slice A5 x.code.length c5, .slice A6 x.lines.length c6, .slice A7 x.handlers.length c7⟩) 56)).heap.size (.slice A4 x.consts.length c4) x.consts) := Lib.hid (HF.out.later ((Below.refl w.heap.size w).alloc (Nat.le_refl _) _) (Nat.le_refl _)).consts
  unfold fnCells at HCn
  unfold fval fnCells
  go_enter Tryz.func56, Tryz.ntmps56
  go_wp2_with first
    | (go_at_call 101; refine (capsSize_any _ _ _ _).mono ?_; rintro e w9 ⟨N9, rfl, rfl⟩)
    | (go_at_call 102; refine (constsSize_any _ x.consts _ HCn.out).mono ?_; rintro e w9 ⟨N9, rfl, rfl⟩)
    | (go_at_call 103; refine (insesSize_any _ _ _ _).mono ?_; rintro e w9 ⟨N9, rfl, rfl⟩)
    | (go_at_call 104; refine (intsSize_any _ _ _ _).mono ?_; rintro e w9 ⟨N9, rfl, rfl⟩)
    | (go_at_call 105; refine (handlersSize_any _ _ _ _).mono ?_; rintro e w9 ⟨N9, rfl, rfl⟩)
    | fail
  all_goals go_ret
  all_goals exact ⟨_, rfl, (Below.refl _ _).alloc (Nat.le_refl _) _⟩
set_option maxHeartbeats 2000000 in
theorem fnsSize_any (v : Value) (p : List FnP) (w : World) (hw : ProgV w w.heap.size v p) : Calls Tryz.prog 16 #[v] w (SomeInt w) := by
  obtain ⟨A, c, rfl, _hc, hl, hw⟩ := hw
  have hlim : p.length ≤ 17592186044416 := by unfold lim at hl; omega
  clear hl
  have HW := Lib.hid hw; clear hw
  go_enter Tryz.func16, Tryz.ntmps16
  go_wp2
  go_loopw [3, 4] (fun t i wr => ∃ (k : Nat) (N : Int), k ≤ p.length ∧ i = .int .i64 k ∧ t = .int .i64 N ∧ Below w.heap.size w wr) (fun _ i _ => p.length - (intOf i).toNat)
  case atStart => exact ⟨0, _, Nat.zero_le _, rfl, rfl, Below.refl _ _⟩
  case round =>
    obtain ⟨k, N, hk, rfl, rfl, hb⟩ := hrel
    by_cases hlt : k < p.length
    · obtain ⟨b, off, rfl, hbB, hp⟩ := HW.out (by omega)
      obtain ⟨x, hx⟩ := getL hlt
      obtain ⟨y, hf, hc⟩ := (hp k x hx).keep (Same.of_below hb) hbB
      have HF : Hid (FnV wr wr.heap.size y x) := Lib.hid (hf.mono hb.size)
      obtain ⟨y3, y4, y5, y6, y7⟩ := y
      have g0 : wr.cell? ⟨b, off + k * 8, none⟩ = some (.string x.name) := hc 0 (by omega)
      have g1 : wr.cell? ⟨b, off + k * 8 + 1, none⟩ = some (.int .i64 x.params) := hc 1 (by omega)
      have g2 : wr.cell? ⟨b, off + k * 8 + 2, none⟩ = some (.int .i64 x.locals) := hc 2 (by omega)
      have g3 : wr.cell? ⟨b, off + k * 8 + 3, none⟩ = some y3 := hc 3 (by omega)
      have g4 : wr.cell? ⟨b, off + k * 8 + 4, none⟩ = some y4 := hc 4 (by omega)
      have g5 : wr.cell? ⟨b, off + k * 8 + 5, none⟩ = some y5 := hc 5 (by omega)
      have g6 : wr.cell? ⟨b, off + k * 8 + 6, none⟩ = some y6 := hc 6 (by omega)
      have g7 : wr.cell? ⟨b, off + k * 8 + 7, none⟩ = some y7 := hc 7 (by omega)
      clear hp HW hx hf hc
      by_cases hm : N ≤ 1048576
      · go_wp2_with (go_at_call 56; refine (fnSize_any x ⟨y3, y4, y5, y6, y7⟩ _ HF.out).mono ?_; rintro e w1 ⟨M, rfl, hb1⟩)
        go_wp2
        go_roundw
        case rel => exact ⟨k + 1, _, by omega, by go_num, rfl, hb.trans (hb1.mono hb.size)⟩
        case measure => simp [intOf]; omega
      · go_wp2
        go_ret
        exact ⟨N, rfl, hb⟩
    · go_wp2
      go_ret
      exact ⟨N, rfl, hb⟩
theorem programSize_any (v : Value) (p : List FnP) (w : World) (hw : ProgV w w.heap.size v p) : Calls Tryz.prog 6 #[v] w (SomeInt w) := by
  obtain ⟨A, c, e, z⟩ := hw
  have HW : Hid (ProgV w w.heap.size v p) := Lib.hid ⟨A, c, e, z⟩
  subst e
  clear z
  go_enter Tryz.func6, Tryz.ntmps6
  go_wp2_with (go_at_call 16; refine (fnsSize_any _ p _ HW.out).mono ?_; rintro e w1 ⟨M, rfl, hb1⟩)
  go_ret
  exact ⟨_, rfl, hb1⟩
end Go.Proofs.YtkmfdiboekoioaaGreat
