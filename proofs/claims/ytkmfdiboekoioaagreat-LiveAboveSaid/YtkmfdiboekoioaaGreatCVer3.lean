/- verify: what a function's head and its code's numbers must be: the small functions. Conditions: a function that lies in memory. -/
import Derived.Test.YtkmfdiboekoioaaGreatCFuncs
set_option linter.unusedSimpArgs false
set_option linter.unusedVariables false
namespace Go.Proofs.YtkmfdiboekoioaaGreat
open Go.RowKit

theorem capNotU (w : World) (bx : Nat) (x : FnP) (n : Int) (A3 : Option Addr) (c3 : Nat) (hb : bx < w.heap.size) (h2 : w.cell? ⟨bx, 2, none⟩ = some (.int .i64 x.locals)) (h3 : w.cell? ⟨bx, 3, none⟩ = some (.slice A3 x.caps.length c3)) (u : Bool) (hu : u = isB n 0 (x.caps.length : Int)) :
    Calls Tryz.prog 175 #[.agg #[.bool true, .int .i64 n], .pointer (some ⟨bx, 0, none⟩)] w (fun e w' => e = .returned (.bool (!u)) ∧ Below w.heap.size w w') := by
  have HU := Lib.hid hu; clear hu
  go_enter Tryz.func175, Tryz.ntmps175
  go_wp2_with (go_at_call 84; refine (isb_any n 0 (x.caps.length : Int) u HU.out _).mono ?_; rintro e w1 ⟨rfl, hw1⟩; have hw2 := hw1.symm; subst hw2)
  go_ret
  exact ⟨rfl, (Below.refl _ _).alloc (Nat.le_refl _) _⟩

theorem capNotL (w : World) (bx : Nat) (x : FnP) (n : Int) (A3 : Option Addr) (c3 : Nat) (hb : bx < w.heap.size) (h2 : w.cell? ⟨bx, 2, none⟩ = some (.int .i64 x.locals)) (h3 : w.cell? ⟨bx, 3, none⟩ = some (.slice A3 x.caps.length c3)) (u : Bool) (hu : u = isB n 0 x.locals) :
    Calls Tryz.prog 175 #[.agg #[.bool false, .int .i64 n], .pointer (some ⟨bx, 0, none⟩)] w (fun e w' => e = .returned (.bool (!u)) ∧ Below w.heap.size w w') := by
  have HU := Lib.hid hu; clear hu
  go_enter Tryz.func175, Tryz.ntmps175
  go_wp2_with (go_at_call 84; refine (isb_any n 0 x.locals u HU.out _).mono ?_; rintro e w1 ⟨rfl, hw1⟩; have hw2 := hw1.symm; subst hw2)
  go_ret
  exact ⟨rfl, (Below.refl _ _).alloc (Nat.le_refl _) _⟩

theorem capNot_any (w : World) (bx : Nat) (x : FnP) (c : CapP) (A3 : Option Addr) (c3 : Nat) (hb : bx < w.heap.size) (h2 : w.cell? ⟨bx, 2, none⟩ = some (.int .i64 x.locals)) (h3 : w.cell? ⟨bx, 3, none⟩ = some (.slice A3 x.caps.length c3)) :
    Calls Tryz.prog 175 #[.agg #[.bool c.up, .int .i64 c.n], .pointer (some ⟨bx, 0, none⟩)] w (fun e w' => e = .returned (.bool (!capB x c)) ∧ Below w.heap.size w w') := by
  obtain ⟨up, n⟩ := c
  cases up
  · exact capNotL w bx x n A3 c3 hb h2 h3 _ (by unfold capB; rfl)
  · exact capNotU w bx x n A3 c3 hb h2 h3 _ (by unfold capB; rfl)

set_option maxHeartbeats 4000000 in
theorem const_any (w : World) (x : ConstP) (t : Bool) (ht : t = constB x) (hs : x.s.size ≤ 140737488355328) : Calls Tryz.prog 151 #[.agg #[.int .u8 x.kind, .int .i64 x.n, .string x.s]] w (fun e w' => e = .returned (.bool t) ∧ Below w.heap.size w w') := by
  by_cases h1 : x.kind = 2
  · by_cases h2 : x.s.toList.isEmpty = true
    · have HT : Hid (t = true) := Lib.hid (by rw [ht]; unfold constB; simp [h1, h2])
      clear ht
      have dh1 : decide (x.kind = 2) = true := (by simp [h1]); skip
      go_enter Tryz.func151, Tryz.ntmps151
      go_wp2_with fail
      go_ret
      exact ⟨by first | (rw [HT.out]; done) | (rw [HT.out]; rfl) | (rw [HT.out]; simp), (Below.refl _ _).alloc (Nat.le_refl _) _⟩
    · by_cases h3 : x.kind = 3
      · by_cases h4 : x.n = 0
        · by_cases h5 : (x.s.size : Int) ≤ 4096
          · exact absurd (h1.symm.trans h3) (by decide)
          · exact absurd (h1.symm.trans h3) (by decide)
        · exact absurd (h1.symm.trans h3) (by decide)
      · have HT : Hid (t = false) := Lib.hid (by rw [ht]; unfold constB; simp [h1, h2, h3])
        clear ht
        have dh1 : decide (x.kind = 2) = true := (by simp [h1]); skip
        go_enter Tryz.func151, Tryz.ntmps151
        go_wp2_with fail
        go_ret
        exact ⟨by first | (rw [HT.out]; done) | (rw [HT.out]; rfl) | (rw [HT.out]; simp), (Below.refl _ _).alloc (Nat.le_refl _) _⟩
  · by_cases h6 : x.kind = 3
    · by_cases h7 : x.n = 0
      · by_cases h8 : (x.s.size : Int) ≤ 4096
        · have HT : Hid (t = true) := Lib.hid (by rw [ht]; unfold constB; simp [h1, h6, h7, h8])
          clear ht
          have dh1 : decide (x.kind = 2) = false := (by simp [h1]); have dh6 : decide (x.kind = 3) = true := (by simp [h6]); have dh7 : decide (x.n = 0) = true := (by simp [h7]); have dh8 : decide ((x.s.size : Int) ≤ 4096) = true := (by simp [h8]); skip
          go_enter Tryz.func151, Tryz.ntmps151
          go_wp2_with fail
          go_ret
          exact ⟨by first | (rw [HT.out]; done) | (rw [HT.out]; rfl) | (rw [HT.out]; simp), (Below.refl _ _).alloc (Nat.le_refl _) _⟩
        · have HT : Hid (t = false) := Lib.hid (by rw [ht]; unfold constB; simp [h1, h6, h7, h8])
          clear ht
          have dh1 : decide (x.kind = 2) = false := (by simp [h1]); have dh6 : decide (x.kind = 3) = true := (by simp [h6]); have dh7 : decide (x.n = 0) = true := (by simp [h7]); have dh8 : decide ((x.s.size : Int) ≤ 4096) = false := (by simp [h8]); skip
          go_enter Tryz.func151, Tryz.ntmps151
          go_wp2_with fail
          go_ret
          exact ⟨by first | (rw [HT.out]; done) | (rw [HT.out]; rfl) | (rw [HT.out]; simp), (Below.refl _ _).alloc (Nat.le_refl _) _⟩
      · have HT : Hid (t = false) := Lib.hid (by rw [ht]; unfold constB; simp [h1, h6, h7])
        clear ht
        have dh1 : decide (x.kind = 2) = false := (by simp [h1]); have dh6 : decide (x.kind = 3) = true := (by simp [h6]); have dh7 : decide (x.n = 0) = false := (by simp [h7]); skip
        go_enter Tryz.func151, Tryz.ntmps151
        go_wp2_with fail
        go_ret
        exact ⟨by first | (rw [HT.out]; done) | (rw [HT.out]; rfl) | (rw [HT.out]; simp), (Below.refl _ _).alloc (Nat.le_refl _) _⟩
    · have HT : Hid (t = false) := Lib.hid (by rw [ht]; unfold constB; simp [h1, h6])
      clear ht
      have dh1 : decide (x.kind = 2) = false := (by simp [h1]); have dh6 : decide (x.kind = 3) = false := (by simp [h6]); skip
      go_enter Tryz.func151, Tryz.ntmps151
      go_wp2_with fail
      go_ret
      exact ⟨by first | (rw [HT.out]; done) | (rw [HT.out]; rfl) | (rw [HT.out]; simp), (Below.refl _ _).alloc (Nat.le_refl _) _⟩

set_option maxHeartbeats 4000000 in
theorem handler_any (w : World) (bn : Nat) (x : HandlerP) (n : Int) (hb : bn < w.heap.size) (hn : w.cell? ⟨bn, 0, none⟩ = some (.int .i64 n)) (t : Bool) (ht : t = handlerB n x) : Calls Tryz.prog 152 #[.agg #[.int .i64 x.from_, .int .i64 x.to_, .int .i64 x.at_, .int .i64 x.deep], .pointer (some ⟨bn, 0, none⟩)] w (fun e w' => e = .returned (.bool t) ∧ Below w.heap.size w w') := by
  by_cases h1 : 0 ≤ x.from_
  · by_cases h2 : x.from_ < x.to_
    · by_cases h3 : x.to_ ≤ x.at_
      · by_cases h4 : x.at_ < n
        · by_cases h5 : isB x.deep 0 256 = true
          · have HT : Hid (t = true) := Lib.hid (by rw [ht]; unfold handlerB; simp [h1, h2, h3, h4, h5])
            clear ht
            have HD : Hid (true = isB x.deep 0 256) := Lib.hid (by simp [h5])
            clear h5
            have dh1 : decide (0 ≤ x.from_) = true := (by simp [h1]); have dh2 : decide (x.from_ < x.to_) = true := (by simp [h2]); have dh3 : decide (x.to_ ≤ x.at_) = true := (by simp [h3]); have dh4 : decide (x.at_ < n) = true := (by simp [h4]); skip
            go_enter Tryz.func152, Tryz.ntmps152
            go_wp2_with (go_at_call 84; refine (isb_any x.deep 0 256 true HD.out _).mono ?_; rintro e w1 ⟨rfl, hw1⟩; have hw2 := hw1.symm; subst hw2)
            go_ret
            exact ⟨by first | (rw [HT.out]; done) | (rw [HT.out]; rfl) | (rw [HT.out]; simp), (Below.refl _ _).alloc (Nat.le_refl _) _⟩
          · have HT : Hid (t = false) := Lib.hid (by rw [ht]; unfold handlerB; simp [h1, h2, h3, h4, h5])
            clear ht
            have HD : Hid (false = isB x.deep 0 256) := Lib.hid (by simp [h5])
            clear h5
            have dh1 : decide (0 ≤ x.from_) = true := (by simp [h1]); have dh2 : decide (x.from_ < x.to_) = true := (by simp [h2]); have dh3 : decide (x.to_ ≤ x.at_) = true := (by simp [h3]); have dh4 : decide (x.at_ < n) = true := (by simp [h4]); skip
            go_enter Tryz.func152, Tryz.ntmps152
            go_wp2_with (go_at_call 84; refine (isb_any x.deep 0 256 false HD.out _).mono ?_; rintro e w1 ⟨rfl, hw1⟩; have hw2 := hw1.symm; subst hw2)
            go_ret
            exact ⟨by first | (rw [HT.out]; done) | (rw [HT.out]; rfl) | (rw [HT.out]; simp), (Below.refl _ _).alloc (Nat.le_refl _) _⟩
        · have HT : Hid (t = false) := Lib.hid (by rw [ht]; unfold handlerB; simp [h1, h2, h3, h4])
          clear ht
          have dh1 : decide (0 ≤ x.from_) = true := (by simp [h1]); have dh2 : decide (x.from_ < x.to_) = true := (by simp [h2]); have dh3 : decide (x.to_ ≤ x.at_) = true := (by simp [h3]); have dh4 : decide (x.at_ < n) = false := (by simp [h4]); skip
          go_enter Tryz.func152, Tryz.ntmps152
          go_wp2_with (fail)
          go_ret
          exact ⟨by first | (rw [HT.out]; done) | (rw [HT.out]; rfl) | (rw [HT.out]; simp), (Below.refl _ _).alloc (Nat.le_refl _) _⟩
      · have HT : Hid (t = false) := Lib.hid (by rw [ht]; unfold handlerB; simp [h1, h2, h3])
        clear ht
        have dh1 : decide (0 ≤ x.from_) = true := (by simp [h1]); have dh2 : decide (x.from_ < x.to_) = true := (by simp [h2]); have dh3 : decide (x.to_ ≤ x.at_) = false := (by simp [h3]); skip
        go_enter Tryz.func152, Tryz.ntmps152
        go_wp2_with (fail)
        go_ret
        exact ⟨by first | (rw [HT.out]; done) | (rw [HT.out]; rfl) | (rw [HT.out]; simp), (Below.refl _ _).alloc (Nat.le_refl _) _⟩
    · have HT : Hid (t = false) := Lib.hid (by rw [ht]; unfold handlerB; simp [h1, h2])
      clear ht
      have dh1 : decide (0 ≤ x.from_) = true := (by simp [h1]); have dh2 : decide (x.from_ < x.to_) = false := (by simp [h2]); skip
      go_enter Tryz.func152, Tryz.ntmps152
      go_wp2_with (fail)
      go_ret
      exact ⟨by first | (rw [HT.out]; done) | (rw [HT.out]; rfl) | (rw [HT.out]; simp), (Below.refl _ _).alloc (Nat.le_refl _) _⟩
  · have HT : Hid (t = false) := Lib.hid (by rw [ht]; unfold handlerB; simp [h1])
    clear ht
    have dh1 : decide (0 ≤ x.from_) = false := (by simp [h1]); skip
    go_enter Tryz.func152, Tryz.ntmps152
    go_wp2_with (fail)
    go_ret
    exact ⟨by first | (rw [HT.out]; done) | (rw [HT.out]; rfl) | (rw [HT.out]; simp), (Below.refl _ _).alloc (Nat.le_refl _) _⟩

theorem constNot_any (w : World) (bf : Nat) (x : ConstP) (hb : bf < w.heap.size) (hf : w.cell? ⟨bf, 0, none⟩ = some (.func (.func 151) #[] #[])) (hs : x.s.size ≤ 140737488355328) :
    Calls Tryz.prog 154 #[.agg #[.int .u8 x.kind, .int .i64 x.n, .string x.s], .pointer (some ⟨bf, 0, none⟩)] w (fun e w' => e = .returned (.bool (!constB x)) ∧ Below w.heap.size w w') := by
  obtain ⟨t, ht⟩ : ∃ t, t = constB x := ⟨_, rfl⟩
  have HT := Lib.hid ht
  rw [← ht]
  clear ht
  go_enter Tryz.func154, Tryz.ntmps154
  go_wp2_with (go_at_call 151; refine (const_any _ x t HT.out hs).mono ?_; rintro e w2 ⟨rfl, hb2⟩; have HB2 := Lib.hid hb2; clear hb2)
  go_ret
  exact ⟨rfl, ((Below.refl _ _).alloc (Nat.le_refl _) _).trans (HB2.out.mono (by simp))⟩
theorem handlerNot_any (w : World) (bf bn : Nat) (x : HandlerP) (n : Int) (hb : bf < w.heap.size) (hf : w.cell? ⟨bf, 0, none⟩ = some (.func (.func 152) #[] #[.pointer (some ⟨bn, 0, none⟩)])) (hbn : bn < w.heap.size) (hn : w.cell? ⟨bn, 0, none⟩ = some (.int .i64 n)) :
    Calls Tryz.prog 157 #[.agg #[.int .i64 x.from_, .int .i64 x.to_, .int .i64 x.at_, .int .i64 x.deep], .pointer (some ⟨bf, 0, none⟩)] w (fun e w' => e = .returned (.bool (!handlerB n x)) ∧ Below w.heap.size w w') := by
  obtain ⟨t, ht⟩ : ∃ t, t = handlerB n x := ⟨_, rfl⟩
  have HT := Lib.hid ht
  rw [← ht]
  clear ht
  have HN := Lib.hid (show (w.alloc (.cells #[.int .i64 x.from_, .int .i64 x.to_, .int .i64 x.at_, .int .i64 x.deep] 161)).cell? ⟨bn, 0, none⟩ = some (.int .i64 n) from (((Below.refl w.heap.size w).alloc (Nat.le_refl _) _).cell hbn).trans hn)
  go_enter Tryz.func157, Tryz.ntmps157
  go_wp2_with (go_at_call 152; refine (handler_any _ bn x n (by simp; omega) HN.out t HT.out).mono ?_; rintro e w2 ⟨rfl, hb2⟩; have HB2 := Lib.hid hb2; clear hb2)
  go_ret
  exact ⟨rfl, ((Below.refl _ _).alloc (Nat.le_refl _) _).trans (HB2.out.mono (by simp))⟩
theorem lineNeg_any (w : World) (x : Int) (t : Bool) (ht : t = decide (x < 0)) : Calls Tryz.prog 155 #[.int .i64 x] w (fun e w' => e = .returned (.bool t) ∧ Below w.heap.size w w') := by
  by_cases h : x < 0
  · obtain rfl : t = true := by rw [ht]; simp [h]
    clear ht
    go_enter Tryz.func155, Tryz.ntmps155
    go_wp2_with fail
    go_ret
    exact ⟨rfl, Below.refl _ _⟩
  · obtain rfl : t = false := by rw [ht]; simp; omega
    clear ht
    go_enter Tryz.func155, Tryz.ntmps155
    go_wp2_with fail
    go_ret
    exact ⟨rfl, Below.refl _ _⟩
end Go.Proofs.YtkmfdiboekoioaaGreat

/- verify: a checker's program; can a function be made here? are all instructions' numbers right? Conditions: a program that lies in memory. -/
namespace Go.Proofs.YtkmfdiboekoioaaGreat
open Go.RowKit
section
variable {w w' : World} {B c rm : Nat} {pv : Value} {p : List FnP} {mk mk' : FMap}
theorem KCtx.turn (h : KCtx w B c rm pv p mk) (hq : IMap w' rm mk') (hg : w.grownBy w' (some rm)) : KCtx w' B c rm pv p mk' :=
  ⟨h.pr.keep fun a ha => cell_mapturn h.mp (.inr ⟨_, hq⟩) hg (Nat.lt_of_lt_of_le ha h.hB), Nat.le_trans h.hB hg.size, h.ck.grown hg (fun e => by
    injection e with e
    obtain ⟨es, cl, hh, _⟩ := h.mp
    have hb := h.ck
    unfold Blk at hb
    rw [e, hh] at hb; cases hb), hq, h.hc, h.hr⟩
theorem KCtx.shape (h : KCtx w B c rm pv p mk) (h0 : 0 < p.length) : ∃ b off cp, pv = .slice (some ⟨b, off, none⟩) p.length cp ∧ b < B := by
  obtain ⟨A, cp, e, _, _, hp⟩ := h.pr
  obtain ⟨b, off, rfl, hb, _⟩ := hp h0
  exact ⟨b, off, cp, e, hb⟩
theorem KCtx.len (h : KCtx w B c rm pv p mk) : p.length ≤ 17592186044416 := by
  obtain ⟨A, cp, e, _, hl, hp⟩ := h.pr
  unfold lim at hl; exact hl
theorem KCtx.fnAt {b off cp k : Nat} {x : FnP} (h : KCtx w B c rm (.slice (some ⟨b, off, none⟩) p.length cp) p mk) (hx : p[k]? = some x) : FnAt w B b (off + k * 8) x := by
  obtain ⟨A, cp', e, _, _, hp⟩ := h.pr
  have hk := (List.getElem?_eq_some_iff.1 hx).1
  obtain ⟨b', off', e2, _, hp⟩ := hp (by omega)
  injection e with e1 _ _
  rw [e2] at e1
  injection e1 with e1
  injection e1 with e3 e4
  rw [e3, e4]
  exact hp k x hx
theorem FnAt.parts {b o : Nat} {x : FnP} (h : FnAt w B b o x) : ∃ A3 c3 A4 c4 A5 c5 A6 c6 A7 c7, FnV w B ⟨.slice A3 x.caps.length c3, .slice A4 x.consts.length c4, .slice A5 x.code.length c5, .slice A6 x.lines.length c6, .slice A7 x.handlers.length c7⟩ x ∧
    w.cell? ⟨b, o, none⟩ = some (.string x.name) ∧ w.cell? ⟨b, o + 1, none⟩ = some (.int .i64 x.params) ∧ w.cell? ⟨b, o + 2, none⟩ = some (.int .i64 x.locals) ∧
    w.cell? ⟨b, o + 3, none⟩ = some (.slice A3 x.caps.length c3) ∧ w.cell? ⟨b, o + 4, none⟩ = some (.slice A4 x.consts.length c4) ∧ w.cell? ⟨b, o + 5, none⟩ = some (.slice A5 x.code.length c5) ∧
    w.cell? ⟨b, o + 6, none⟩ = some (.slice A6 x.lines.length c6) ∧ w.cell? ⟨b, o + 7, none⟩ = some (.slice A7 x.handlers.length c7) := by
  obtain ⟨y, hy, hc⟩ := h
  obtain ⟨A3, c3, A4, c4, A5, c5, A6, c6, A7, c7, rfl⟩ := hy.shape
  exact ⟨A3, c3, A4, c4, A5, c5, A6, c6, A7, c7, hy, hc 0 (by omega), hc 1 (by omega), hc 2 (by omega), hc 3 (by omega), hc 4 (by omega), hc 5 (by omega), hc 6 (by omega), hc 7 (by omega)⟩
theorem Below.turn {r : Nat} (h : Below w.heap.size w w') : w.grownBy w' (some r) := ⟨h.os, h.tape, h.output, h.size, fun k hk _ => h.block k hk⟩
/-- A function's box. -/
structure FBox (w : World) (B bx : Nat) (y : FVals) (x : FnP) : Prop where
  fn : FnV w B y x
  hB : B ≤ w.heap.size
  box : Blk w bx 56 (fnCells x y)
theorem FBox.below {bx : Nat} {y : FVals} {x : FnP} (h : FBox w B bx y x) (hb : Below w.heap.size w w') : FBox w' B bx y x := ⟨h.fn.keep (Same.of_below (hb.mono h.hB)), Nat.le_trans h.hB hb.size, h.box.below hb h.box.lt⟩
theorem FBox.turn {bx : Nat} {y : FVals} {x : FnP} (h : FBox w B bx y x) (hp : IMap w rm mk) (hq : IMap w' rm mk') (hg : w.grownBy w' (some rm)) : FBox w' B bx y x :=
  ⟨h.fn.keep fun a ha => cell_mapturn hp (.inr ⟨_, hq⟩) hg (Nat.lt_of_lt_of_le ha h.hB), Nat.le_trans h.hB hg.size, h.box.grown hg (fun e => by
    injection e with e
    obtain ⟨es, cl, hh, _⟩ := hp
    have hb := h.box
    unfold Blk at hb
    rw [e, hh] at hb; cases hb)⟩
theorem FBox.made {y : FVals} {x : FnP} (h : FnV w B y x) (hB : B ≤ w.heap.size) : FBox (w.alloc (.cells (fnCells x y) 56)) B w.heap.size y x :=
  ⟨h.keep (Same.of_below (((Below.refl _ _).alloc (Nat.le_refl _) _).mono hB)), by simp; omega, Blk.new w _ _⟩
theorem FBox.cells {bx : Nat} {y : FVals} {x : FnP} (h : FBox w B bx y x) : w.cell? ⟨bx, 0, none⟩ = some (.string x.name) ∧ w.cell? ⟨bx, 1, none⟩ = some (.int .i64 x.params) ∧ w.cell? ⟨bx, 2, none⟩ = some (.int .i64 x.locals) ∧
    w.cell? ⟨bx, 3, none⟩ = some y.c3 ∧ w.cell? ⟨bx, 4, none⟩ = some y.c4 ∧ w.cell? ⟨bx, 5, none⟩ = some y.c5 ∧ w.cell? ⟨bx, 6, none⟩ = some y.c6 ∧ w.cell? ⟨bx, 7, none⟩ = some y.c7 :=
  ⟨h.box.cell 0, h.box.cell 1, h.box.cell 2, h.box.cell 3, h.box.cell 4, h.box.cell 5, h.box.cell 6, h.box.cell 7⟩
end
theorem FnV.ints {w : World} {B : Nat} {y : FVals} {x : FnP} (h : FnV w B y x) : x.caps.length ≤ 17592186044416 ∧ x.consts.length ≤ 17592186044416 ∧ x.code.length ≤ 17592186044416 ∧ x.lines.length ≤ 17592186044416 ∧ x.handlers.length ≤ 17592186044416 := by
  obtain ⟨_, ⟨_, _, _, _, h3, _⟩, ⟨_, _, _, _, h4, _⟩, ⟨_, _, _, _, h5, _⟩, ⟨_, _, _, _, h6, _⟩, ⟨_, _, _, _, h7, _⟩⟩ := h
  unfold lim at h3 h4 h5 h6 h7
  exact ⟨h3, h4, h5, h6, h7⟩



set_option maxRecDepth 100000 in
set_option maxHeartbeats 8000000 in
theorem makes_any (w : World) (B c rm : Nat) (pv : Value) (p : List FnP) (mk : FMap) (fn m : Nat) (x z : FnP) (hk : KCtx w B c rm pv p mk) (hx : p[fn]? = some x) (hz : p[m]? = some z) (t : Bool) (ht : t = makesB p mk fn x m) :
    Calls Tryz.prog 159 #[.pointer (some ⟨c, 0, none⟩), .int .i64 fn, .int .i64 m] w (fun e w' => e = .returned (.bool t) ∧ KCtx w' B c rm pv p (makesM mk fn m) ∧ w.grownBy w' (some rm)) := by
  have hfn := (List.getElem?_eq_some_iff.1 hx).1
  have hmn := (List.getElem?_eq_some_iff.1 hz).1
  obtain ⟨b, off, cp, rfl, hb⟩ := hk.shape (by omega)
  have hplim := hk.len
  obtain ⟨A3, c3, A4, c4, A5, c5, A6, c6, A7, c7, hv, g0, g1, g2, g3, g4, g5, g6, g7⟩ := (hk.fnAt hx).parts
  obtain ⟨w4, hw4⟩ : ∃ w4, w4 = w.alloc (.cells (fnCells x ⟨.slice A3 x.caps.length c3, .slice A4 x.consts.length c4, .slice A5 x.code.length c5, .slice A6 x.lines.length c6, .slice A7 x.handlers.length c7⟩) 56) := ⟨_, rfl⟩
  have hF4 : FBox w4 B w.heap.size ⟨.slice A3 x.caps.length c3, .slice A4 x.consts.length c4, .slice A5 x.code.length c5, .slice A6 x.lines.length c6, .slice A7 x.handlers.length c7⟩ x := by rw [hw4]; exact FBox.made hv hk.hB
  have hb4 : Below w.heap.size w w4 := by rw [hw4]; exact (Below.refl _ _).alloc (Nat.le_refl _) _
  have hk4 := hk.below hb4
  have hlen := hv.ints
  obtain ⟨k0, k125⟩ := hk.cells
  obtain ⟨n0, n125⟩ := hk4.cells
  have hc := hk.ck.lt
  have hlook := (IMap.look (P := Tryz.prog) hk4.mp Tryz.underlying76 Tryz.underlying3 (by kernel_rfl) (m : Int)).2
  unfold fnCells at hw4
  simp only at hw4
  have HK := Lib.hid hk; have HK4 := Lib.hid hk4; have HF4 := Lib.hid hF4; have HB4 := Lib.hid hb4
  have HX := Lib.hid hx; have HZ := Lib.hid hz
  clear hk hk4 hF4 hb4 hx hz hv
  by_cases hsame : (mk (m : Int)).getD fn = fn
  · obtain ⟨w5, hupd, hm5, hg5, hs5⟩ := IMap.update (P := Tryz.prog) HK4.out.mp Tryz.underlying76 Tryz.underlying3 (m : Int) (fn : Int)
    have hk5 := HK4.out.turn hm5 hg5
    have hF5 := HF4.out.turn HK4.out.mp hm5 hg5
    obtain ⟨m0, m125⟩ := hk5.cells
    obtain ⟨f0, f1, f2, f3, _⟩ := hF5.cells
    obtain ⟨B3, d3, B4, d4, B5, d5, B6, d6, B7, d7, hvz, q0, q1, q2, q3, q4, q5, q6, q7⟩ := (hk5.fnAt HZ.out).parts
    have HVZ := Lib.hid (show CapsV w5 w5.heap.size (.slice B3 z.caps.length d3) z.caps from (hvz.mono hk5.hB).caps)
    have HK5 := Lib.hid hk5; have HF5 := Lib.hid hF5; have HG5 := Lib.hid hg5
    have HT : Hid (t = z.caps.all (capB x)) := Lib.hid (by rw [ht]; unfold makesB; rw [Int.toNat_natCast, HZ.out]; simp [hsame])
    have HM : Hid (makesM mk fn m = mk.put m fn) := Lib.hid (by unfold makesM; rw [if_pos hsame])
    obtain ⟨u, hu⟩ : ∃ u : Bool, u = z.caps.any (fun x' => !capB x x') := ⟨_, rfl⟩
    have HU := Lib.hid hu
    have hbx5 : w.heap.size < w5.heap.size := HF5.out.box.lt
    have H2 := Lib.hid f2
    have H3 := Lib.hid (show w5.cell? ⟨w.heap.size, 3, none⟩ = some (.slice A3 x.caps.length c3) from f3)
    clear ht hu hvz hk5 hF5 hm5 hg5 f0 f1 f2 f3 q0 q1 q2 q4 q5 q6 q7
    cases hmk : mk (m : Int) with
    | none =>
      rw [hmk] at hlook
      simp only [Option.getD_none, Option.isSome_none] at hlook
      clear hmk hsame
      go_enter Tryz.func159, Tryz.ntmps159
      go_upto_region 2 with fail
      rw [← hw4]
      clear hw4 g0 g1 g2 g3 g4 g5 g6 g7
      go_wp2_with (go_at_call 174; refine (ctCap_any w5 _ z.caps 175 #[] #[.pointer (some ⟨w.heap.size, 0, none⟩)] (fun x' => !capB x x') HVZ.out (fun _ _ => by kernel_rfl) (fun wr y _ hwr => capNot_any wr w.heap.size x y A3 c3 (Nat.lt_of_lt_of_le hbx5 hwr.size) ((hwr.cell hbx5).trans H2.out) ((hwr.cell hbx5).trans H3.out)) u HU.out).mono ?_; rintro e w6 ⟨rfl, hb6⟩; have HB6 := Lib.hid hb6; clear hb6)
      go_ret
      refine ⟨?_, ?_, ?_⟩
      · rw [HT.out, HU.out]; simp [List.all_eq_not_any_not]
      · rw [HM.out]; exact HK5.out.below HB6.out
      · exact ((Below.turn HB4.out).trans HG5.out).trans (Below.turn HB6.out)
    | some by_ =>
      rw [hmk] at hlook hsame
      simp only [Option.getD_some, Option.isSome_some] at hlook hsame
      subst hsame
      clear hmk
      go_enter Tryz.func159, Tryz.ntmps159
      go_upto_region 2 with fail
      rw [← hw4]
      clear hw4 g0 g1 g2 g3 g4 g5 g6 g7
      go_wp2_with (go_at_call 174; refine (ctCap_any w5 _ z.caps 175 #[] #[.pointer (some ⟨w.heap.size, 0, none⟩)] (fun x' => !capB x x') HVZ.out (fun _ _ => by kernel_rfl) (fun wr y _ hwr => capNot_any wr w.heap.size x y A3 c3 (Nat.lt_of_lt_of_le hbx5 hwr.size) ((hwr.cell hbx5).trans H2.out) ((hwr.cell hbx5).trans H3.out)) u HU.out).mono ?_; rintro e w6 ⟨rfl, hb6⟩; have HB6 := Lib.hid hb6; clear hb6)
      go_ret
      refine ⟨?_, ?_, ?_⟩
      · rw [HT.out, HU.out]; simp [List.all_eq_not_any_not]
      · rw [HM.out]; exact HK5.out.below HB6.out
      · exact ((Below.turn HB4.out).trans HG5.out).trans (Below.turn HB6.out)
  · have HT : Hid (t = false) := Lib.hid (by rw [ht]; unfold makesB; simp [hsame])
    have HM : Hid (makesM mk fn m = mk) := Lib.hid (by unfold makesM; rw [if_neg hsame])
    obtain ⟨v, hv⟩ : ∃ v, mk (m : Int) = some v := by
      cases h : mk (m : Int) with
      | none => rw [h] at hsame; exact absurd rfl hsame
      | some v => exact ⟨v, rfl⟩
    rw [hv] at hlook hsame
    simp only [Option.getD_some, Option.isSome_some] at hlook hsame
    have hd : decide (v = (fn : Int)) = false := by simp [hsame]
    clear ht
    go_enter Tryz.func159, Tryz.ntmps159
    go_upto_region 2 with fail
    rw [← hw4]
    clear hw4 g0 g1 g2 g3 g4 g5 g6 g7
    go_wp2_with fail
    go_ret
    exact ⟨by first | (rw [HT.out]; done) | (rw [HT.out]; rfl), by rw [HM.out]; exact HK4.out, Below.turn HB4.out⟩
end Go.Proofs.YtkmfdiboekoioaaGreat
