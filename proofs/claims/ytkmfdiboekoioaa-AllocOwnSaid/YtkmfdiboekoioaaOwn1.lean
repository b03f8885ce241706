/- Steps of a region that draws: append, and a call of alloc.Check; the registers of AllocOwn. No condition. -/
import Derived.Test.YtkmfdiboekoioaaLives
import Derived.Deep.RegionLaw
namespace Go.Proofs.Ytkmfdiboekoioaa
open Go.RowKit

/-- The memory of AllocOwn behind its loop. -/
structure LMem (w : World) (g : GraphP) (xv : GVals) (br : Nat) (rs : List Int) (W : World) : Prop where
  cx : GCtx W w.heap.size w.heap.size xv g
  rg : Blk W br 3 (regCells rs)
  low : Below w.heap.size w W
  brl : w.heap.size < br
section
variable {w W W' : World} {g : GraphP} {xv : GVals} {br B : Nat} {rs : List Int}
theorem LMem.below (h : LMem w g xv br rs W) (hb : Below B W W') (hB : br < B) (hW : B ≤ W.heap.size) : LMem w g xv br rs W' :=
  ⟨⟨h.cx.gr.keep (Same.of_below (hb.mono (by have := h.brl; omega))), Nat.le_trans h.cx.hB hb.size, h.cx.box.below hb (by have := h.brl; omega)⟩, h.rg.below hb hB, h.low.trans (hb.mono (by have := h.brl; omega)), h.brl⟩
theorem LMem.later (h : LMem w g xv br rs W) (hb : Below W.heap.size W W') : LMem w g xv br rs W' := h.below hb h.rg.lt (Nat.le_refl _)
theorem LMem.alloc (h : LMem w g xv br rs W) (o : Obj) : LMem w g xv br rs (W.alloc o) := h.later ((Below.refl _ _).alloc (Nat.le_refl _) _)
theorem LMem.drew (h : LMem w g xv br rs W) : LMem w g xv br rs W.drew :=
  ⟨⟨h.cx.gr, h.cx.hB, h.cx.box⟩, h.rg, ⟨h.low.os, h.low.tape, h.low.output, h.low.size, h.low.block⟩, h.brl⟩
theorem LMem.put (h : LMem w g xv br rs W) (k : Nat) (r : Int) : LMem w g xv br (rs.set k r) (W.setCell ⟨br, k, none⟩ (.int .i64 r)) := by
  refine ⟨h.cx.setCell (p := ⟨br, k, none⟩) (Nat.le_of_lt h.brl) (Nat.ne_of_lt h.brl) _, ?_, h.low.setCell (p := ⟨br, k, none⟩) (Nat.le_of_lt h.brl) _, h.brl⟩
  have := h.rg.set_ k (.int .i64 r)
  have e : (regCells rs).setIfInBounds k (.int .i64 r) = regCells (rs.set k r) := by simp [regCells, List.map_set]
  rw [e] at this
  exact this
theorem LMem.cell (h : LMem w g xv br rs W) {k : Nat} (hk : k < rs.length) : W.cell? ⟨br, k, none⟩ = some (.int .i64 (rs.getD k 0)) := by
  rw [h.rg.cell]
  simp [regCells, hk, List.getD_eq_getElem?_getD]
theorem LMem.ints (h : LMem w g xv br rs W) (hl : rs.length ≤ lim) : IntsV W W.heap.size (.slice (some ⟨br, 0, none⟩) rs.length rs.length) rs :=
  ints_blk h.rg h.rg.lt rfl (Nat.le_refl _) hl (fun j x hx => by simp [regCells, hx])
end
theorem LMem.intsN {w W : World} {g : GraphP} {xv : GVals} {br N : Nat} {rs : List Int} (h : LMem w g xv br rs W) (hN : rs.length = N) (hl : N ≤ 5000) : IntsV W W.heap.size (.slice (some ⟨br, 0, none⟩) N N) rs := by
  subst hN
  exact h.ints (by unfold lim; omega)
/-- append in a region that draws, whatever its guard. -/
theorem step_app {ops : Array Oper} {o : Oper} {a : Act} {K : Act → World → Prop} {Q : Exit → Act → World → Prop} {E : Prop} {W : World} (hw : Region.wanted o (yielded ops a.tmps) = true) (s x : Operand)
    (ho : o.op = .call { callee := .builtin .append, args := #[s, x], argTypes := #[29, 29] }) (v u : Value) (hs : a.eval s = v) (hx : a.eval x = u)
    (base : Nat) (xs l : List Int) (hown : OwnInts W base v xs) (hu : IntsV W W.heap.size u l) (h63 : xs.length + l.length ≤ 1000000000000) (hbase : base ≤ W.heap.size)
    (hK : ∀ v' w', OwnInts w' base v' (xs ++ l) → Below base W w' → K (a.put o.dst v') w') : if Region.wanted o (yielded ops a.tmps) = true then Oper.wp Try.prog o a W K Q else E := by
  obtain ⟨v', w', hrun, h1, h2⟩ := run_append_ints W base v u xs l o.type hown hu h63 hbase
  have hk := hK v' w' h1 ((Below.refl base W).grown h2 hbase (fun k e => (World.ownsRow.lt hown k e).1))
  rw [if_pos hw]
  unfold Oper.wp
  simp only [execOp, ho, resolve, invoke, builtin, hs, hx, List.map_toArray, List.map_cons, List.map_nil, Sem.run_bind, Sem.run_pure, Result.andThen, hrun, Oper.upon_value, pure_bind, bind_pure_comp, Sem.run_map]
  exact hk
/-- append to nil. -/
theorem step_app1 {ops : Array Oper} {o : Oper} {a : Act} {K : Act → World → Prop} {Q : Exit → Act → World → Prop} {E : Prop} {W : World} (hw : Region.wanted o (yielded ops a.tmps) = true) (x : Operand)
    (ho : o.op = .call { callee := .builtin .append, args := #[.const (.slice none 0 0), x], argTypes := #[29, 29] }) (u : Value) (hx : a.eval x = u)
    (l : List Int) (hu : IntsV W W.heap.size u l) (h63 : l.length ≤ 1000000000000)
    (hK : ∀ v' w' base, base = W.heap.size → OwnInts w' base v' l → Below base W w' → K (a.put o.dst v') w') : if Region.wanted o (yielded ops a.tmps) = true then Oper.wp Try.prog o a W K Q else E :=
  step_app hw _ x ho (.slice none 0 0) u rfl hx W.heap.size [] l (OwnInts.nil _ _) hu (by simpa using h63) (Nat.le_refl _) (fun v' w' h1 h2 => hK v' w' _ rfl h1 h2)
/-- A call of alloc.Check in a region that draws. -/
theorem step_check {ops : Array Oper} {o : Oper} {a : Act} {K : Act → World → Prop} {Q : Exit → Act → World → Prop} {E : Prop} {W : World} (hw : Region.wanted o (yielded ops a.tmps) = true) (s x : Operand) (tys : Array TypeId)
    (ho : o.op = .call { callee := .value (.func 6), args := #[s, x], argTypes := tys }) (g : GraphP) (xv : GVals) (v : Value) (hs : a.eval s = gval g xv) (hx : a.eval x = v)
    (rs : List Int) (b : Bool) (hg : GraphV W W.heap.size xv g) (hsm : Small g) (hv : IntsV W W.heap.size v rs) (hb : ∀ e w', CheckIs g rs W e w' → e = .returned (.bool b))
    (hK : ∀ w', Below W.heap.size W w' → K (a.put o.dst (.bool b)) w') : if Region.wanted o (yielded ops a.tmps) = true then Oper.wp Try.prog o a W K Q else E := by
  have hc := check_any W xv g v rs hg hsm hv
  rw [if_pos hw]
  unfold Oper.wp
  have hf : a.eval (.func 6) = .func (.func 6) #[] #[] := rfl
  simp only [execOp, ho, resolve, invoke, hs, hx, hf, List.map_toArray, List.map_cons, List.map_nil, Sem.run_bind, Sem.run_pure, Result.andThen, pure_bind, bind_pure_comp, Sem.run_map]
  go_simp
  refine hc.mono ?_
  intro e w' h
  have hl := h
  obtain ⟨_, _, hlow, _⟩ := h
  rw [hb e w' hl]
  exact hK w' hlow
end Go.Proofs.Ytkmfdiboekoioaa
