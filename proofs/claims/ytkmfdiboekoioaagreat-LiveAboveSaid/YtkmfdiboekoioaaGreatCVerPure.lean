/- verify in plain Lean: rows, heads, numbers, depths; what they say of a function. No condition. -/
import Derived.Test.YtkmfdiboekoioaaGreatCProg2
import Derived.Test.YtkmfdiboekoioaaGreatCMaps
import Derived.Deep.Cut
import Derived.Deep.CutRange
import Derived.Deep.DeepCutAuto
import Derived.BigQuiet
import Derived.Deep.LoopGhost
import Derived.Laws.Tables
import Derived.Laws.Rows
set_option linter.unusedSimpArgs false
set_option linter.unusedVariables false
namespace Go.Proofs.YtkmfdiboekoioaaGreat
open Go.RowKit

structure RowP where
  a : Int
  takes : Int
  leaves : Int
  times : Int
def rowsP : List RowP := [⟨0, 0, 0, 0⟩, ⟨1, 0, 1, 0⟩, ⟨0, 0, 1, 0⟩, ⟨0, 0, 1, 0⟩, ⟨0, 0, 1, 0⟩, ⟨2, 0, 1, 0⟩, ⟨2, 1, 0, 0⟩, ⟨2, 0, 0, 0⟩, ⟨2, 0, 1, 0⟩, ⟨2, 1, 0, 0⟩,
  ⟨3, 0, 1, 0⟩, ⟨3, 1, 0, 0⟩, ⟨0, 1, 0, 0⟩, ⟨0, 1, 2, 0⟩, ⟨4, 2, 1, 0⟩, ⟨0, 1, 1, 0⟩, ⟨0, 1, 1, 0⟩, ⟨0, 1, 1, 0⟩, ⟨0, 1, 1, 0⟩, ⟨5, 0, 0, 0⟩, ⟨5, 1, 0, 0⟩, ⟨6, 0, 0, 0⟩,
  ⟨7, 0, 1, 1⟩, ⟨7, 0, 1, 2⟩, ⟨0, 2, 1, 0⟩, ⟨0, 3, 0, 0⟩, ⟨8, 0, 1, 0⟩, ⟨7, 1, 1, 1⟩, ⟨0, 1, 0, 0⟩, ⟨0, 1, 0, 0⟩, ⟨0, 1, 0, 0⟩]
def rowOf (op : Int) : RowP := rowsP.getD op.toNat ⟨0, 0, 0, 0⟩
def isB (a f b : Int) : Bool := decide (f ≤ a) && decide (a < b)
theorem isB_iff (a f b : Int) : isB a f b = true ↔ f ≤ a ∧ a < b := by unfold isB; simp
def numB (np : Nat) (f : FnP) (pc : Nat) (i : InsP) : Bool :=
  isB i.op 1 31 &&
  match (rowOf i.op).a with
  | 1 => isB i.a 0 f.consts.length
  | 2 => isB i.a 0 f.locals
  | 3 => isB i.a 0 f.caps.length
  | 4 => isB i.a 1 10
  | 5 => isB i.a (pc + 1) f.code.length
  | 6 => isB i.a 0 (pc + 1)
  | 7 => isB i.a 0 257
  | 8 => isB i.a 1 np
  | _ => decide (i.a = 0)
def constB (x : ConstP) : Bool := (decide (x.kind = 2) && x.s.toList.isEmpty) || (decide (x.kind = 3) && decide (x.n = 0) && decide ((x.s.size : Int) ≤ 4096))
def handlerB (n : Int) (h : HandlerP) : Bool := decide (0 ≤ h.from_) && decide (h.from_ < h.to_) && decide (h.to_ ≤ h.at_) && decide (h.at_ < n) && isB h.deep 0 256
def headB (fn : Nat) (f : FnP) : Bool :=
  decide ((f.name.size : Int) ≤ 4096) && (isB f.params 0 (wrap64 (f.locals + 1)) && (decide (f.locals ≤ 64) && ((decide (0 < (fn : Int)) || (decide (f.params = 0) && decide ((f.caps.length : Int) = 0))) &&
    (decide ((f.caps.length : Int) ≤ 4096) && (decide ((f.consts.length : Int) ≤ 16384) && (decide ((f.handlers.length : Int) ≤ 16384) && (isB f.code.length 1 16385 && (decide ((f.lines.length : Int) = f.code.length) &&
      (f.consts.all constB && (f.lines.all (fun l => decide (0 ≤ l)) && f.handlers.all (handlerB f.code.length)))))))))))
def capB (f : FnP) (x : CapP) : Bool := if x.up then isB x.n 0 f.caps.length else isB x.n 0 f.locals
def makesB (p : List FnP) (mk : FMap) (fn : Nat) (f : FnP) (made : Int) : Bool :=
  decide ((mk made).getD fn = fn) && ((p[made.toNat]?).map (fun x => x.caps.all (capB f))).getD true
def makesM (mk : FMap) (fn : Nat) (made : Int) : FMap := if (mk made).getD fn = fn then mk.put made fn else mk
def lastB (f : FnP) (pc : Nat) (i : InsP) : Bool := decide (pc + 1 = f.code.length) && (decide (i.op ≠ 28) && (decide (i.op ≠ 29) && decide (i.op ≠ 21)))
def codeGo (p : List FnP) (fn : Nat) (f : FnP) : List InsP → Nat → FMap → Int × FMap
  | [], _, mk => (-1, mk)
  | i :: r, pc, mk =>
    if numB p.length f pc i = true ∧ lastB f pc i = false then
      if i.op = 26 then
        if makesB p mk fn f i.a = true then codeGo p fn f r (pc + 1) (makesM mk fn i.a) else (pc, makesM mk fn i.a)
      else codeGo p fn f r (pc + 1) mk
    else (pc, mk)

structure DSt where
  told : List Int
  todo : List Int
  ok : Bool
def insK (todo : List Int) (x : Int) : Nat := (todo.takeWhile (fun y => decide (x < y))).length
def insAt (todo : List Int) (x : Int) : List Int := todo.take (insK todo x) ++ x :: todo.drop (insK todo x)
def tellD (at_ deep : Int) (s : DSt) : DSt :=
  if s.told.getD at_.toNat 0 < 0 then ⟨s.told.set at_.toNat deep, insAt s.todo at_, s.ok⟩
  else ⟨s.told, s.todo, s.ok && decide (s.told.getD at_.toNat 0 = deep)⟩
def handD (pc d : Int) : List HandlerP → DSt → Option DSt
  | [], s => some s
  | h :: r, s => if isB pc h.from_ h.to_ = true then (if d < h.deep then none else handD pc d r (tellD h.at_ (h.deep + 1) s)) else handD pc d r s
def endD (op a pc d : Int) (s : DSt) : DSt :=
  if op = 28 ∨ op = 29 then s else if op = 19 ∨ op = 21 then tellD a d s else if op = 20 then tellD a d (tellD (pc + 1) d s) else tellD (pc + 1) d s
def deepD (told : List Int) (pc : Int) (i : InsP) : Int := told.getD pc.toNat 0 - (rowOf i.op).takes - (rowOf i.op).times * i.a
def stepD (f : FnP) (pc : Int) (i : InsP) (told todo : List Int) : Option DSt :=
  if deepD told pc i < 0 ∨ 256 < deepD told pc i + (rowOf i.op).leaves ∨ i.op = 21 ∧ told.getD pc.toNat 0 ≠ 0 then none
  else (handD pc (deepD told pc i) f.handlers ⟨told, todo, true⟩).map (endD i.op i.a pc (deepD told pc i + (rowOf i.op).leaves))
def runD (f : FnP) : Nat → List Int → List Int → Option (List Int) × Int
  | 0, _, _ => (none, 0)
  | n + 1, told, todo =>
    match todo.getLast? with
    | none => (some told, -1)
    | some pc =>
      match f.code[pc.toNat]? with
      | none => (none, 0)
      | some i =>
        match stepD f pc i told todo.dropLast with
        | none => (none, pc)
        | some s => if s.ok = true then runD f n s.told s.todo else (none, pc)
def toldD (f : FnP) : List Int := (List.replicate f.code.length (-1)).set 0 0
def depthsP (f : FnP) : Option (List Int) × Int := runD f (f.code.length + 2) (toldD f) [0]

/-- The first fault of functions from one on; the makers. -/
inductive LookR where
  | bad (fn pc : Int)
  | good (mk : FMap)
def lookGo (p : List FnP) : List FnP → Nat → FMap → LookR
  | [], _, mk => .good mk
  | f :: r, fn, mk =>
    if headB fn f = true then
      if 0 ≤ (codeGo p fn f f.code 0 mk).1 then .bad fn (codeGo p fn f f.code 0 mk).1
      else if 0 ≤ (depthsP f).2 then .bad fn (depthsP f).2
      else lookGo p r (fn + 1) (codeGo p fn f f.code 0 mk).2
    else .bad fn 0
def loneGo (mk : FMap) : List FnP → Nat → Option Nat
  | [], _ => none
  | f :: r, fn => if mk (fn : Int) = none ∧ 0 < f.caps.length then some fn else loneGo mk r (fn + 1)
def lookP (p : List FnP) : LookR :=
  if isB p.length 1 257 = true then
    match lookGo p p 0 FMap.none_ with
    | .bad fn pc => .bad fn pc
    | .good mk => match loneGo mk p 0 with
      | some fn => .bad fn 0
      | none => .good mk
  else .bad 0 0
end Go.Proofs.YtkmfdiboekoioaaGreat

/- verify: is, rows. No condition. -/
namespace Go.Proofs.YtkmfdiboekoioaaGreat
open Go.RowKit
theorem is_any (a f b : Int) (w : World) : Calls Tryz.prog 84 #[.int .i64 a, .int .i64 f, .int .i64 b] w (fun e w' => e = .returned (.bool (decide (f ≤ a) && decide (a < b))) ∧ w = w') := by
  by_cases h1 : f ≤ a
  · by_cases h2 : a < b
    · go_enter Tryz.func84, Tryz.ntmps84
      go_wp2
      go_ret
      simp [h1, h2]
    · go_enter Tryz.func84, Tryz.ntmps84
      go_wp2
      go_ret
      simp [h1, h2]
  · go_enter Tryz.func84, Tryz.ntmps84
    go_wp2
    go_ret
    simp [h1]
    omega
theorem results_cell {P : Program} {fn : Func} {s : Nat} {t : TypeId} (hfr : fn.results = #[.cell s t]) {tmps : Array Value} {w : World} {v : Value} {ad : Addr} (ha : tmps[s]?.getD undef = .pointer (some ad)) (hl : (loadVar t ad).run P w = .ok v w) :
    (results fn tmps).run P w = .ok v w := by
  simp only [results, hfr]
  simp [ha, hl, asAddr, Result.andThen]
theorem below_setRow {B : Nat} (w : World) (g : Nat) (hg : B ≤ g) (cs : Array Value) : Below B w (w.setRow g cs) := by
  refine ⟨rfl, rfl, rfl, by simp [World.setRow], fun k hk => ?_⟩
  have hne : g ≠ k := by omega
  simp [World.setRow, Array.getElem?_modify, hne]
def rowCells (r : RowP) : List Value := [.int .u8 r.a, .int .i64 r.takes, .int .i64 r.leaves, .int .i64 r.times]
def rowsCells : Array Value := (rowsP.flatMap rowCells).toArray

set_option maxRecDepth 100000 in
set_option maxHeartbeats 8000000 in
theorem rows_any (w : World) : Calls Tryz.prog 126 #[] w (fun e w' => e = .returned (.agg rowsCells) ∧ Below w.heap.size w w') := by
  go_enter Tryz.func126, Tryz.ntmps126
  go_upto_region 1 with fail
  apply wp_region_lit
  iterate 31 refine wpList_build rfl _ _ rfl (by kernel_rfl) ?_
  refine wpList_store_row rfl 191 (.tmp 0) (.tmp 31) rfl w.heap.size rowsCells (by kernel_rfl) (by kernel_rfl) 191 _ (heap_alloc_new w _) (by kernel_rfl) (by kernel_rfl) (by kernel_rfl) ?_
  apply wpList_nil
  rename_i K0 hK0
  refine hK0 _ _ ?_
  apply wp_ret
  have hrow : ((w.alloc (.cells Tryz.zeroCells191 191)).setRow w.heap.size rowsCells).heap[w.heap.size]? = some (.cells rowsCells 191 (0, 0)) := setRow_heap _ _ _ _ _ _ (heap_alloc_new w _)
  refine bodyPost_ret (v := .agg rowsCells) (results_cell rfl (ad := ⟨w.heap.size, 0, none⟩) (by kernel_rfl) (run_loadVar_row _ _ _ _ _ _ _ hrow (by kernel_rfl : Tryz.prog.underlying 191 = some (.array 31 190)) rfl (by kernel_rfl))) (by kernel_rfl) ?_
  refine ⟨rfl, ?_⟩
  exact ((Below.refl w.heap.size w).alloc (Nat.le_refl _) _).trans (below_setRow _ _ (Nat.le_refl _) _)
end Go.Proofs.YtkmfdiboekoioaaGreat
