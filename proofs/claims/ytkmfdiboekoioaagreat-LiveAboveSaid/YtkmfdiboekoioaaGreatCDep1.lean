/- The memory of verify.depths, and its rounds in plain Lean. No condition. -/
import Derived.Test.YtkmfdiboekoioaaGreatCBin
import Derived.Test.YtkmfdiboekoioaaGreatCVer5
set_option linter.unusedSimpArgs false
set_option linter.unusedVariables false
namespace Go.Proofs.YtkmfdiboekoioaaGreat
open Go.RowKit

/-- The two boxes: told, todo. -/
structure QMem (base bt bq gt ct : Nat) (qv : Value) (told todo : List Int) (W : World) : Prop where
  tb : Blk W bt 34 #[.slice (some ⟨gt, 0, none⟩) told.length ct]
  tr : OwnInts W base (.slice (some ⟨gt, 0, none⟩) told.length ct) told
  qb : Blk W bq 34 #[qv]
  qr : OwnInts W base qv todo
  ne : qv.ownBlock ≠ some gt
  n2 : bt ≠ bq
  hbt : base ≤ bt
  hbq : base ≤ bq
  hbW : base ≤ W.heap.size
section
variable {base bt bq bo gt ct k : Nat} {qv : Value} {s : DSt} {W W' : World} {told todo : List Int}
theorem TMem.q (h : TMem base bt bq bo gt ct qv s W) : QMem base bt bq gt ct qv s.told s.todo W := ⟨h.tb, h.tr, h.qb, h.qr, h.ne, h.n2, h.hbt, h.hbq, h.hbW⟩
theorem QMem.below (h : QMem base bt bq gt ct qv told todo W) (hb : Below W.heap.size W W') : QMem base bt bq gt ct qv told todo W' :=
  ⟨h.tb.below hb h.tb.lt, ow_below h.tr hb, h.qb.below hb h.qb.lt, ow_below h.qr hb, h.ne, h.n2, h.hbt, h.hbq, Nat.le_trans h.hbW hb.size⟩
theorem QMem.ok (h : QMem base bt bq gt ct qv told todo W) : TMem base bt bq W.heap.size gt ct qv ⟨told, todo, true⟩ (W.alloc (.cells #[.bool true] 4)) := by
  have hb : Below W.heap.size W (W.alloc (.cells #[.bool true] 4)) := (Below.refl _ _).alloc (Nat.le_refl _) _
  have h' := h.below hb
  exact ⟨h'.tb, h'.tr, h'.qb, h'.qr, Blk.new _ _ _, h.ne, h.n2, h.hbt, h.hbq, h.hbW, h'.hbW⟩
theorem ow_pop {base g c : Nat} {r : List Int} {a : Int} {A : Option Addr} (h : OwnInts W base (.slice A (r.length + 1) c) (r ++ [a])) : OwnInts W base (.slice A r.length c) r ∧ (Value.slice A r.length c).ownBlock = (Value.slice A (r.length + 1) c).ownBlock ∧ ∃ g, A = some ⟨g, 0, none⟩ ∧ r.length < c ∧ c ≤ maxLen ∧ W.cell? ⟨g, r.length, none⟩ = some (.int .i64 a) ∧ g < W.heap.size := by
  obtain ⟨_, ⟨e, _⟩ | ⟨g, cap, cur, e, hbg, hb, hc, hm, hs, ht⟩⟩ := h
  · cases e
  · have hlen : (r ++ [a]).length = r.length + 1 := by simp
    try simp only [hlen] at e
    try simp only [hlen] at hc
    try simp only [hlen] at hs
    try simp only [hlen] at ht
    injection e with e1 e2 e3
    subst e1 e3
    try simp only [Nat.mul_one] at hs
    try simp only [Nat.mul_one] at ht
    have hl : (cur.toList.take (r.length + 1)) = r.map (Value.int .i64) ++ [.int .i64 a] := by rw [ht]; simp
    refine ⟨?_, rfl, g, rfl, by omega, hm, ?_, ?_⟩
    · refine own_set rfl hb hbg (by omega) hm hs ?_
      have := congrArg (List.take r.length) hl
      rw [List.take_take, Nat.min_eq_left (by omega)] at this
      rw [this]
      exact List.take_left' (by simp)
    · rw [cell_of_row W g r.length cur _ (0, 0) hb]
      have h2 := congrArg (fun l => l[r.length]?) hl
      try simp only at h2
      rw [List.getElem?_take, if_pos (by omega)] at h2
      rw [← Array.getElem?_toList, h2]
      simp
    · exact (Array.getElem?_eq_some_iff.1 hb).1
theorem QMem.pop {r : List Int} {a : Int} {A : Option Addr} {c : Nat} (h : QMem base bt bq gt ct (.slice A (r.length + 1) c) told (r ++ [a]) W) : QMem base bt bq gt ct (.slice A r.length c) told r (W.setCell ⟨bq, 0, none⟩ (.slice A r.length c)) := by
  have hg := grown_set W bq 0 (.slice A r.length c)
  obtain ⟨p1, p2, _⟩ := ow_pop (g := 0) h.qr
  refine ⟨h.tb.far (p := ⟨bq, 0, none⟩) h.n2 _, ow_kept h.tr hg (.inr (ow_ne_blk h.tr h.qb (by decide))), ?_, ow_kept p1 hg (.inr (ow_ne_blk p1 h.qb (by decide))), by rw [p2]; exact h.ne, h.n2, h.hbt, h.hbq, Nat.le_trans h.hbW hg.size⟩
  exact h.qb.set_ 0 _
theorem QMem.at_ (h : QMem base bt bq gt ct qv told todo W) (hk : k < told.length) : W.cell? ⟨gt, k, none⟩ = some (.int .i64 (told.getD k 0)) := by
  have h' := h.below ((Below.refl _ _).alloc (Nat.le_refl W.heap.size) (.cells #[.bool true] 4))
  have h1 := (h.ok.at_ hk).1
  rw [← h1]
  refine ((((Below.refl _ _).alloc (Nat.le_refl W.heap.size) (.cells #[.bool true] 4)).cell (p := ⟨gt, k, none⟩) ?_)).symm
  exact (World.ownsRow.lt h.tr gt rfl).2

/-- All that depths has in memory in a round. -/
structure RMem (w : World) (B c rm : Nat) (pv : Value) (p : List FnP) (mk : FMap) (y : FVals) (x : FnP) (bf bt bq bo gt ct bi br : Nat) (ic rc : Array Value) (qv : Value) (s : DSt) (W : World) : Prop where
  kc : KCtx W B c rm pv p mk
  fb : FBox W B bf y x
  tm : TMem w.heap.size bt bq bo gt ct qv s W
  ib : Blk W bi 117 ic
  rb : Blk W br 190 rc
  low : Below w.heap.size w W
  hB : B ≤ w.heap.size
variable {w : World} {B c rm bf bi br : Nat} {pv : Value} {p : List FnP} {mk : FMap} {y : FVals} {x : FnP} {ic rc : Array Value}
theorem RMem.below (h : RMem w B c rm pv p mk y x bf bt bq bo gt ct bi br ic rc qv s W) (hb : Below W.heap.size W W') : RMem w B c rm pv p mk y x bf bt bq bo gt ct bi br ic rc qv s W' :=
  ⟨h.kc.below hb, h.fb.below hb, h.tm.below hb, h.ib.below hb h.ib.lt, h.rb.below hb h.rb.lt, h.low.trans (hb.mono h.low.size), h.hB⟩
theorem RMem.turn (h : RMem w B c rm pv p mk y x bf bt bq bo gt ct bi br ic rc qv s W) {qv' : Value} {s' : DSt} (hm : TMem w.heap.size bt bq bo gt ct qv' s' W') (ht : Turn4 (tS gt bq bo qv) W W') : RMem w B c rm pv p mk y x bf bt bq bo gt ct bi br ic rc qv' s' W' := by
  have hb : Below w.heap.size W W' := ht.below h.low.size (fun k hk => h.tm.low hk)
  refine ⟨⟨h.kc.pr.keep (Same.of_below (hb.mono h.hB)), Nat.le_trans h.kc.hB ht.size, ht.blk h.kc.ck (h.tm.not_blk h.kc.ck (by decide) (by decide) (by decide)), ht.map h.kc.mp (h.tm.not_map h.kc.mp), h.kc.hc, h.kc.hr⟩,
    ⟨h.fb.fn.keep (Same.of_below (hb.mono h.hB)), Nat.le_trans h.fb.hB ht.size, ht.blk h.fb.box (h.tm.not_blk h.fb.box (by decide) (by decide) (by decide))⟩, hm, ht.blk h.ib (h.tm.not_blk h.ib (by decide) (by decide) (by decide)),
    ht.blk h.rb (h.tm.not_blk h.rb (by decide) (by decide) (by decide)), h.low.trans hb, h.hB⟩
/-- What it has at a round's beginning. -/
structure LMem (w : World) (B c rm : Nat) (pv : Value) (p : List FnP) (mk : FMap) (y : FVals) (x : FnP) (bf bt bq gt ct : Nat) (qv : Value) (told todo : List Int) (W : World) : Prop where
  kc : KCtx W B c rm pv p mk
  fb : FBox W B bf y x
  tm : QMem w.heap.size bt bq gt ct qv told todo W
  low : Below w.heap.size w W
  hB : B ≤ w.heap.size
theorem RMem.l (h : RMem w B c rm pv p mk y x bf bt bq bo gt ct bi br ic rc qv s W) : LMem w B c rm pv p mk y x bf bt bq gt ct qv s.told s.todo W := ⟨h.kc, h.fb, h.tm.q, h.low, h.hB⟩
theorem LMem.below (h : LMem w B c rm pv p mk y x bf bt bq gt ct qv told todo W) (hb : Below W.heap.size W W') : LMem w B c rm pv p mk y x bf bt bq gt ct qv told todo W' :=
  ⟨h.kc.below hb, h.fb.below hb, h.tm.below hb, h.low.trans (hb.mono h.low.size), h.hB⟩
theorem LMem.pop {r : List Int} {a : Int} {A : Option Addr} {d : Nat} (h : LMem w B c rm pv p mk y x bf bt bq gt ct (.slice A (r.length + 1) d) told (r ++ [a]) W) : LMem w B c rm pv p mk y x bf bt bq gt ct (.slice A r.length d) told r (W.setCell ⟨bq, 0, none⟩ (.slice A r.length d)) := by
  have hg := grown_set W bq 0 (.slice A r.length d)
  have hb : Below w.heap.size W (W.setCell ⟨bq, 0, none⟩ (.slice A r.length d)) := (Below.refl _ _).setCell (p := ⟨bq, 0, none⟩) h.tm.hbq _
  refine ⟨⟨h.kc.pr.keep (Same.of_below (hb.mono h.hB)), Nat.le_trans h.kc.hB hg.size, h.kc.ck.far (p := ⟨bq, 0, none⟩) (Blk.ne h.kc.ck h.tm.qb (by decide)) _, IMap.grown h.kc.mp hg (fun e => ?_), h.kc.hc, h.kc.hr⟩,
    ⟨h.fb.fn.keep (Same.of_below (hb.mono h.hB)), Nat.le_trans h.fb.hB hg.size, h.fb.box.far (p := ⟨bq, 0, none⟩) (Blk.ne h.fb.box h.tm.qb (by decide)) _⟩, h.tm.pop, h.low.trans hb, h.hB⟩
  injection e with e
  obtain ⟨es, cl, hh, _⟩ := h.kc.mp
  have hq := h.tm.qb
  unfold Blk at hq
  rw [e, hq] at hh; cases hh
theorem LMem.start {bi br : Nat} {ic rc : Array Value} (h : LMem w B c rm pv p mk y x bf bt bq gt ct qv told todo W) (hi : Blk W bi 117 ic) (hr : Blk W br 190 rc) :
    RMem w B c rm pv p mk y x bf bt bq W.heap.size gt ct bi br ic rc qv ⟨told, todo, true⟩ (W.alloc (.cells #[.bool true] 4)) := by
  have hb : Below W.heap.size W (W.alloc (.cells #[.bool true] 4)) := (Below.refl _ _).alloc (Nat.le_refl _) _
  have h' := h.below hb
  exact ⟨h'.kc, h'.fb, h.tm.ok, hi.alloc _, hr.alloc _, h'.low, h.hB⟩
end
theorem HandlersV.at_ {w : World} {B n c : Nat} {A : Option Addr} {l : List HandlerP} {k : Nat} {i : HandlerP} (h : HandlersV w B (.slice A n c) l) (hi : l[k]? = some i) : ∃ b off, A = some ⟨b, off, none⟩ ∧ b < B ∧ HandlerAt w b (off + k * 4) i := by
  have hk := (List.getElem?_eq_some_iff.1 hi).1
  obtain ⟨A', c', e, _, _, hp⟩ := h
  injection e with e1 _ _
  subst e1
  obtain ⟨b, off, rfl, hb, hp⟩ := hp (by omega)
  exact ⟨b, off, rfl, hb, hp k i hi⟩
theorem runD_end (f : FnP) (n : Nat) (told : List Int) : runD f (n + 1) told [] = (some told, -1) := rfl
theorem runD_step {f : FnP} {n k : Nat} {told r : List Int} {i : InsP} (hi : f.code[k]? = some i) : runD f (n + 1) told (r ++ [(k : Int)]) = match stepD f k i told r with | none => (none, (k : Int)) | some s => if s.ok = true then runD f n s.told s.todo else (none, (k : Int)) := by
  simp only [runD, List.getLast?_append, List.getLast?_singleton, Option.or_some, Int.toNat_natCast, hi, List.dropLast_concat, Option.some_or]
  rfl
theorem negs_first {n : Nat} (h : 0 < n) : negs ((List.replicate n (-1)).set 0 0) + 1 = n := by
  obtain ⟨m, rfl⟩ : ∃ m, n = m + 1 := ⟨n - 1, by omega⟩
  simp [negs, List.replicate_succ, List.countP_replicate]
theorem toldD_inv {f : FnP} (h : 0 < f.code.length) : DInv f.code.length ⟨toldD f, [0], true⟩ := by
  unfold toldD
  refine ⟨by simp, by simp [Falling], fun x hx => ?_, fun x hx => ?_⟩
  · simp only [List.mem_singleton] at hx
    subst hx
    refine ⟨by omega, by omega, ?_⟩
    simp [List.getD_eq_getElem?_getD, h]
  · rcases List.mem_or_eq_of_mem_set hx with hx | rfl
    · rw [List.eq_of_mem_replicate hx]; omega
    · omega
theorem numB_many {np : Nat} {f : FnP} {pc : Nat} {i : InsP} (h : numB np f pc i = true) : 0 ≤ (rowOf i.op).times * i.a ∧ (rowOf i.op).times * i.a ≤ 512 := by
  unfold numB at h
  simp only [Bool.and_eq_true] at h
  have h1 := (isB_iff _ _ _).1 h.1
  obtain ⟨o, ho⟩ : ∃ o : Nat, i.op = (o : Int) := ⟨i.op.toNat, by omega⟩
  have key : ∀ o : Fin 31, (rowOf ((o.val : Nat) : Int)).times = 0 ∨ (rowOf ((o.val : Nat) : Int)).a = 7 ∧ (rowOf ((o.val : Nat) : Int)).times ≤ 2 ∧ 0 ≤ (rowOf ((o.val : Nat) : Int)).times := by decide
  have := key ⟨o, by omega⟩
  simp only [← ho] at this
  rcases this with e | ⟨e1, e2, e3⟩
  · rw [e]; simp
  · have h2 := h.2
    rw [e1] at h2
    have h3 := (isB_iff _ _ _).1 h2
    refine ⟨Int.mul_nonneg e3 h3.1, ?_⟩
    calc (rowOf i.op).times * i.a ≤ 2 * i.a := Int.mul_le_mul_of_nonneg_right e2 h3.1
      _ ≤ 512 := by omega
theorem last_next {f : FnP} {pc : Nat} {i : InsP} (hl : lastB f pc i = false) (hpc : pc < f.code.length) (h1 : i.op ≠ 28) (h2 : i.op ≠ 29) (h3 : i.op ≠ 21) : (pc : Int) + 1 < (f.code.length : Int) := by
  unfold lastB at hl
  by_cases hc : pc + 1 = f.code.length
  · rw [decide_eq_true hc, decide_eq_true h1, decide_eq_true h2, decide_eq_true h3] at hl
    cases hl
  · omega
end Go.Proofs.YtkmfdiboekoioaaGreat
