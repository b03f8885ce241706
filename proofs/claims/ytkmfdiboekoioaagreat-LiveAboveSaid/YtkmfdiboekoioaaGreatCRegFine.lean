/- What reg's rows ask of a number: each function ends. Conditions: a program that lies in memory; an instruction that names a function names one that there is. -/
import Derived.Test.YtkmfdiboekoioaaGreatCRegRows
set_option linter.unusedSimpArgs false
set_option linter.unusedVariables false
namespace Go.Proofs.YtkmfdiboekoioaaGreat
open Go.RowKit
theorem ProgV.shape {w : World} {B : Nat} {pv : Value} {p : List FnP} (h : ProgV w B pv p) (h0 : 0 < p.length) : ∃ b off cp, pv = .slice (some ⟨b, off, none⟩) p.length cp ∧ b < B ∧ p.length ≤ 17592186044416 := by
  obtain ⟨A, cp, e, _, hl, hp⟩ := h
  obtain ⟨b, off, rfl, hb, _⟩ := hp h0
  unfold lim at hl
  exact ⟨b, off, cp, e, hb, hl⟩
theorem ProgV.fnAt {w : World} {B b off cp k : Nat} {p : List FnP} {x : FnP} (h : ProgV w B (.slice (some ⟨b, off, none⟩) p.length cp) p) (hx : p[k]? = some x) : FnAt w B b (off + k * 8) x := by
  obtain ⟨A, cp', e, _, _, hp⟩ := h
  have hk := (List.getElem?_eq_some_iff.1 hx).1
  obtain ⟨b', off', e2, _, hp⟩ := hp (by omega)
  injection e with e1 _ _
  rw [e2] at e1
  injection e1 with e1
  injection e1 with e3 e4
  rw [e3, e4]
  exact hp k x hx
def FineIs (w : World) (e : Ending) (w' : World) : Prop := (∃ t, e = .returned (.bool t)) ∧ Below w.heap.size w w'
theorem whatever_any (w : World) (a b c d : Value) : Calls Tryz.prog 163 #[a, b, c, d] w (FineIs w) := by
  go_enter Tryz.func163, Tryz.ntmps163
  go_wp2_with fail
  all_goals
    go_ret
    exact ⟨⟨_, rfl⟩, Below.refl _ _⟩
set_option maxHeartbeats 1000000 in
theorem consts_any (w : World) (pv : Value) (p : List FnP) (fn : Nat) (x : FnP) (hp : ProgV w w.heap.size pv p) (hx : p[fn]? = some x) (n : Int) (d : Value) : Calls Tryz.prog 162 #[pv, .int .i64 fn, .int .i64 n, d] w (FineIs w) := by
  have hfn := (List.getElem?_eq_some_iff.1 hx).1
  obtain ⟨b, off, cp, rfl, hb, hpl⟩ := hp.shape (by omega)
  obtain ⟨A3, c3, A4, c4, A5, c5, A6, c6, A7, c7, hv, g0, g1, g2, g3, g4, g5, g6, g7⟩ := (hp.fnAt hx).parts
  have hlen := hv.ints
  clear hv hp hx g0 g1 g2 g3 g5 g6 g7
  go_enter Tryz.func162, Tryz.ntmps162
  go_wp2_with fail
  all_goals
    go_ret
    exact ⟨⟨_, rfl⟩, Below.refl _ _⟩
set_option maxHeartbeats 1000000 in
theorem held_any (w : World) (pv : Value) (p : List FnP) (fn : Nat) (x : FnP) (hp : ProgV w w.heap.size pv p) (hx : p[fn]? = some x) (n : Int) (d : Value) : Calls Tryz.prog 164 #[pv, .int .i64 fn, .int .i64 n, d] w (FineIs w) := by
  have hfn := (List.getElem?_eq_some_iff.1 hx).1
  obtain ⟨b, off, cp, rfl, hb, hpl⟩ := hp.shape (by omega)
  obtain ⟨A3, c3, A4, c4, A5, c5, A6, c6, A7, c7, hv, g0, g1, g2, g3, g4, g5, g6, g7⟩ := (hp.fnAt hx).parts
  have hlen := hv.ints
  clear hv hp hx g0 g1 g2 g4 g5 g6 g7
  go_enter Tryz.func164, Tryz.ntmps164
  go_wp2_with fail
  all_goals
    go_ret
    exact ⟨⟨_, rfl⟩, Below.refl _ _⟩
theorem sign1_any (w : World) (a c d : Value) (n : Int) (b : Nat) (m : Int) (hb : Blk w b 223 #[.int .u8 m]) (hm : 0 ≤ m ∧ m ≤ 255) : Calls Tryz.prog 177 #[a, c, .int .i64 n, d, .pointer (some ⟨b, 0, none⟩)] w (FineIs w) := by
  have h0 : w.cell? ⟨b, 0, none⟩ = some (.int .u8 m) := hb.cell 0
  have hl := hb.lt
  clear hb
  go_enter Tryz.func177, Tryz.ntmps177
  go_wp2_with fail
  all_goals
    go_ret
    exact ⟨⟨_, rfl⟩, Below.refl _ _⟩
theorem even_any (w : World) (a c : Value) (n d : Int) (hd : 0 ≤ d ∧ d ≤ 17592186044416) : Calls Tryz.prog 166 #[a, c, .int .i64 n, .int .i64 d] w (FineIs w) := by
  go_enter Tryz.func166, Tryz.ntmps166
  go_wp2_with fail
  all_goals
    go_ret
    exact ⟨⟨_, rfl⟩, Below.refl _ _⟩
theorem some_any (w : World) (a c : Value) (n d : Int) : Calls Tryz.prog 168 #[a, c, .int .i64 n, .int .i64 d] w (FineIs w) := by
  go_enter Tryz.func168, Tryz.ntmps168
  go_wp2_with fail
  all_goals
    go_ret
    exact ⟨⟨_, rfl⟩, Below.refl _ _⟩
theorem value_any (w : World) (k n : Int) : Calls Tryz.prog 138 #[.int .u8 k, .int .i64 n] w (fun e w' => (∃ t, e = .returned (.bool t)) ∧ w' = w) := by
  go_enter Tryz.func138, Tryz.ntmps138
  go_wp2_with fail
  all_goals
    go_ret
    exact ⟨⟨_, rfl⟩, rfl⟩
theorem names_any (w : World) (i : InsP) (b : Nat) (n : Int) (hb : b < w.heap.size) (h0 : w.cell? ⟨b, 0, none⟩ = some (.int .i64 n)) : Calls Tryz.prog 179 #[.agg #[.int .u8 i.op, .int .i64 i.a], .pointer (some ⟨b, 0, none⟩)] w
    (fun e w' => e = .returned (.bool (decide (i.op = 26) && decide (i.a = n))) ∧ Below w.heap.size w w') := by
  by_cases h1 : i.op = 26
  · have d1 : decide (i.op = 26) = true := (by simp [h1])
    by_cases h2 : i.a = n
    · go_enter Tryz.func179, Tryz.ntmps179
      go_wp2_with fail
      go_ret
      exact ⟨by simp [h1, h2], (Below.refl _ _).alloc (Nat.le_refl _) _⟩
    · go_enter Tryz.func179, Tryz.ntmps179
      go_wp2_with fail
      go_ret
      exact ⟨by simp [h1, h2], (Below.refl _ _).alloc (Nat.le_refl _) _⟩
  · have d1 : decide (i.op = 26) = false := (by simp [h1])
    go_enter Tryz.func179, Tryz.ntmps179
    go_wp2_with fail
    go_ret
    exact ⟨by simp [h1], (Below.refl _ _).alloc (Nat.le_refl _) _⟩
set_option maxRecDepth 100000 in
set_option maxHeartbeats 8000000 in
theorem made_any (w : World) (pv : Value) (p : List FnP) (fn : Nat) (x : FnP) (hp : ProgV w w.heap.size pv p) (hx : p[fn]? = some x) (hcode : ∀ i ∈ x.code, i.op = 26 → 1 ≤ i.a ∧ i.a < (p.length : Int)) (n d : Int) (hd : 0 ≤ d ∧ d ≤ 17592186044416) :
    Calls Tryz.prog 167 #[pv, .int .i64 fn, .int .i64 n, .int .i64 d] w (FineIs w) := by
  have hfn := (List.getElem?_eq_some_iff.1 hx).1
  have hb1 : Below w.heap.size w (w.alloc (.cells #[.int .i64 n] 2)) := (Below.refl _ _).alloc (Nat.le_refl _) _
  have HP1 := Lib.hid (hp.keep (Same.of_below hb1))
  have HC := Lib.hid hcode
  obtain ⟨b, off, cp, rfl, hb, hpl⟩ := hp.shape (by omega)
  obtain ⟨w1, hw1⟩ : ∃ w1, w1 = w.alloc (.cells #[.int .i64 n] 2) := ⟨_, rfl⟩
  rw [← hw1] at HP1 hb1
  have HX : Hid (Blk w1 w.heap.size 2 #[.int .i64 n]) := Lib.hid (by rw [hw1]; exact Blk.new _ _ _)
  obtain ⟨A3, c3, A4, c4, A5, c5, A6, c6, A7, c7, hv, g0, g1, g2, g3, g4, g5, g6, g7⟩ := (HP1.out.fnAt hx).parts
  have hlen := hv.ints
  have HV := Lib.hid (hv.mono hb1.size).code
  have hlx := HX.out.lt
  have hx0 : w1.cell? ⟨w.heap.size, 0, none⟩ = some (.int .i64 n) := HX.out.cell 0
  have HB1 := Lib.hid hb1
  clear hv hp hx g0 g1 g2 g3 g4 g6 g7 hcode hb1
  obtain ⟨t, ht⟩ : ∃ t, t = x.code.any (fun i => decide (i.op = 26) && decide (i.a = n)) := ⟨_, rfl⟩
  have HT := Lib.hid ht
  clear ht
  cases t with
  | false =>
    go_enter Tryz.func167, Tryz.ntmps167
    go_upto_region 1 with fail
    rw [← hw1]
    clear hw1
    go_wp2_with (go_at_call 178; refine (ctIns_any w1 _ x.code 179 #[] #[.pointer (some ⟨w.heap.size, 0, none⟩)] (fun i => decide (i.op = 26) && decide (i.a = n)) HV.out (fun _ _ => by kernel_rfl) (fun wr y _ hwr => names_any wr y w.heap.size n (Nat.lt_of_lt_of_le hlx hwr.size) ((hwr.cell hlx).trans hx0)) false HT.out).mono ?_; rintro e w2 ⟨rfl, hb2⟩; have HB2 := Lib.hid hb2; clear hb2)
    go_ret
    exact ⟨⟨_, rfl⟩, HB1.out.trans (HB2.out.mono HB1.out.size)⟩
  | true =>
    have hn : 1 ≤ n ∧ n < (p.length : Int) := by
      obtain ⟨i, hi, hq⟩ := List.any_eq_true.1 HT.out.symm
      simp only [Bool.and_eq_true, decide_eq_true_eq] at hq
      have := HC.out i hi hq.1
      rw [hq.2] at this; exact this
    obtain ⟨m, rfl⟩ : ∃ m : Nat, n = (m : Int) := ⟨n.toNat, by omega⟩
    obtain ⟨z, hz⟩ := getL (show m < p.length by omega)
    have HZ := Lib.hid hz
    clear hz
    go_enter Tryz.func167, Tryz.ntmps167
    go_upto_region 1 with fail
    rw [← hw1]
    clear hw1
    go_upto_region 3 with (go_at_call 178; refine (ctIns_any w1 _ x.code 179 #[] #[.pointer (some ⟨w.heap.size, 0, none⟩)] (fun i => decide (i.op = 26) && decide (i.a = (m : Int))) HV.out (fun _ _ => by kernel_rfl) (fun wr y _ hwr => names_any wr y w.heap.size m (Nat.lt_of_lt_of_le hlx hwr.size) ((hwr.cell hlx).trans hx0)) true HT.out).mono ?_; rintro e w2 ⟨rfl, hb2⟩; have HB2 := Lib.hid hb2; clear hb2)
    have HP2 := Lib.hid (HP1.out.keep (Same.of_below (HB2.out.mono HB1.out.size)))
    obtain ⟨B3, d3, B4, d4, B5, d5, B6, d6, B7, d7, hvz, q0, q1, q2, q3, q4, q5, q6, q7⟩ := (HP2.out.fnAt HZ.out).parts
    have hlz := hvz.ints
    have HCz : Hid (CapsV w2 w.heap.size (.slice B3 z.caps.length d3) z.caps) := Lib.hid hvz.caps
    have hy0 : w2.cell? ⟨w.heap.size, 0, none⟩ = some (.int .i64 m) := (HB2.out.cell (p := ⟨w.heap.size, 0, none⟩) hlx).trans hx0
    have hly := Nat.lt_of_lt_of_le hlx HB2.out.size
    have HBz : Hid (Below w.heap.size w w2) := Lib.hid (HB1.out.trans (HB2.out.mono HB1.out.size))
    clear hvz q0 q1 q2 q4 q5 q6 q7 g5 hx0
    go_wp2_with fail
    clear q3 hy0
    go_loopw [3, 25] (fun a i wr => ∃ (k : Nat) (y : Int), k ≤ z.caps.length ∧ i = .int .i64 k ∧ a = .int .i64 y ∧ -(k : Int) ≤ y ∧ y ≤ 17592186044416 ∧ Hid (Below w2.heap.size w2 wr)) (fun _ i _ => z.caps.length - (intOf i).toNat)
    case atStart => exact ⟨0, d, Nat.zero_le _, rfl, rfl, by omega, by omega, Lib.hid (Below.refl _ _)⟩
    case round =>
      obtain ⟨k, y, hk, rfl, rfl, hy1, hy2, HB3⟩ := hrel
      obtain ⟨wq, rfl⟩ : ∃ wq : World, wq = wr := ⟨_, rfl⟩
      by_cases hlt : k < z.caps.length
      · obtain ⟨A', c', en, _, _, hpp⟩ := HCz.out.keep (Same.of_below (HB3.out.mono HBz.out.size))
        injection en with en1 en2 en3
        subst en1
        obtain ⟨b3, o3, rfl, hbB, hpp⟩ := hpp (by omega)
        obtain ⟨u, hu⟩ := getL hlt
        obtain ⟨f0, f1⟩ := hpp k u hu
        obtain ⟨up, un⟩ := u
        simp only at f0 f1
        clear hpp hu en3
        cases up
        · go_wp2_with fail
          go_roundw
          case rel => exact ⟨k + 1, y - 1, by omega, by go_num, by go_num, by omega, by omega, Lib.hid (HB3.out.alloc HB3.out.size _)⟩
          case measure => simp [intOf]; omega
        · go_wp2_with fail
          go_roundw
          case rel => exact ⟨k + 1, y, by omega, by go_num, rfl, by omega, by omega, Lib.hid (HB3.out.alloc HB3.out.size _)⟩
          case measure => simp [intOf]; omega
      · go_wp2_with fail
        all_goals
          go_ret
          exact ⟨⟨_, rfl⟩, HBz.out.trans (HB3.out.mono HBz.out.size)⟩
/-- Each row's function ends. -/
theorem fine_any (w : World) (b1 b2 : Nat) (pv : Value) (p : List FnP) (fn : Nat) (x : FnP) (hp : ProgV w w.heap.size pv p) (hx : p[fn]? = some x) (hcode : ∀ i ∈ x.code, i.op = 26 → 1 ≤ i.a ∧ i.a < (p.length : Int)) (n d : Int) (hd : 0 ≤ d ∧ d ≤ 17592186044416)
    (h1 : Blk w b1 223 #[.int .u8 9]) (h2 : Blk w b2 223 #[.int .u8 7]) (r : RowR) (hr : r ∈ rowsR b1 b2) (pf : Nat) (cs : Array Value) (hf : r.fine = some (pf, cs)) :
    Enters pf ∧ Calls Tryz.prog pf (#[pv, .int .i64 fn, .int .i64 n, .int .i64 d] ++ cs) w (FineIs w) := by
  have key : ∀ r ∈ rowsR b1 b2, r.fine = none ∨ r.fine = some (162, #[]) ∨ r.fine = some (163, #[]) ∨ r.fine = some (164, #[]) ∨ r.fine = some (177, #[.pointer (some ⟨b1, 0, none⟩)]) ∨
      r.fine = some (177, #[.pointer (some ⟨b2, 0, none⟩)]) ∨ r.fine = some (166, #[]) ∨ r.fine = some (167, #[]) ∨ r.fine = some (168, #[]) := by
    intro r hr
    simp only [rowsR, List.mem_cons, List.not_mem_nil, or_false] at hr
    rcases hr with rfl | rfl | rfl | rfl | rfl | rfl | rfl | rfl | rfl | rfl | rfl | rfl | rfl | rfl | rfl | rfl | rfl | rfl | rfl | rfl | rfl | rfl | rfl | rfl | rfl | rfl | rfl <;> simp
  have := key r hr
  rw [hf] at this
  rcases this with e | e | e | e | e | e | e | e | e
  · cases e
  · injection e with e; injection e with e1 e2; subst e1 e2
    exact ⟨fun _ _ => by kernel_rfl, consts_any w pv p fn x hp hx n _⟩
  · injection e with e; injection e with e1 e2; subst e1 e2
    exact ⟨fun _ _ => by kernel_rfl, whatever_any w _ _ _ _⟩
  · injection e with e; injection e with e1 e2; subst e1 e2
    exact ⟨fun _ _ => by kernel_rfl, held_any w pv p fn x hp hx n _⟩
  · injection e with e; injection e with e1 e2; subst e1 e2
    exact ⟨fun _ _ => by kernel_rfl, sign1_any w _ _ _ n b1 9 h1 (by omega)⟩
  · injection e with e; injection e with e1 e2; subst e1 e2
    exact ⟨fun _ _ => by kernel_rfl, sign1_any w _ _ _ n b2 7 h2 (by omega)⟩
  · injection e with e; injection e with e1 e2; subst e1 e2
    exact ⟨fun _ _ => by kernel_rfl, even_any w _ _ n d hd⟩
  · injection e with e; injection e with e1 e2; subst e1 e2
    exact ⟨fun _ _ => by kernel_rfl, made_any w pv p fn x hp hx hcode n d hd⟩
  · injection e with e; injection e with e1 e2; subst e1 e2
    exact ⟨fun _ _ => by kernel_rfl, some_any w _ _ n d⟩
end Go.Proofs.YtkmfdiboekoioaaGreat
