/- verify: are all instructions of a function right? Conditions: a program that lies in memory. -/
import Derived.Test.YtkmfdiboekoioaaGreatCVer3
set_option linter.unusedSimpArgs false
set_option linter.unusedVariables false
namespace Go.Proofs.YtkmfdiboekoioaaGreat
open Go.RowKit
structure CMem (w : World) (B c rm : Nat) (pv : Value) (p : List FnP) (y : FVals) (x : FnP) (mk : FMap) (W : World) : Prop where
  kc : KCtx W B c rm pv p mk
  fb : FBox W B w.heap.size y x
  low : w.grownBy W (some rm)
section
variable {w W W' : World} {B c rm : Nat} {pv : Value} {p : List FnP} {y : FVals} {x : FnP} {mk mk' : FMap}
theorem CMem.below (h : CMem w B c rm pv p y x mk W) (hb : Below W.heap.size W W') : CMem w B c rm pv p y x mk W' := ⟨h.kc.below hb, h.fb.below hb, h.low.trans (Below.turn hb)⟩
theorem CMem.turn (h : CMem w B c rm pv p y x mk W) (hk : KCtx W' B c rm pv p mk') (hg : W.grownBy W' (some rm)) : CMem w B c rm pv p y x mk' W' := ⟨hk, h.fb.turn h.kc.mp hk.mp hg, h.low.trans hg⟩
end
theorem InsesV.at_ {w : World} {B n c : Nat} {A : Option Addr} {l : List InsP} {k : Nat} {i : InsP} (h : InsesV w B (.slice A n c) l) (hi : l[k]? = some i) : ∃ b off, A = some ⟨b, off, none⟩ ∧ b < B ∧ InsAt w b (off + k * 2) i := by
  have hk := (List.getElem?_eq_some_iff.1 hi).1
  obtain ⟨A', c', e, _, _, hp⟩ := h
  injection e with e1 _ _
  subst e1
  obtain ⟨b, off, rfl, hb, hp⟩ := hp (by omega)
  exact ⟨b, off, rfl, hb, hp k i hi⟩
theorem numB_fn {np : Nat} {f : FnP} {pc : Nat} {i : InsP} (h : numB np f pc i = true) (ho : i.op = 26) : 1 ≤ i.a ∧ i.a < (np : Int) := by
  unfold numB at h
  rw [ho] at h
  have e : (rowOf 26).a = 8 := by decide
  rw [e] at h
  simp only [Bool.and_eq_true] at h
  exact (isB_iff _ _ _).1 h.2
theorem bool_or (b : Bool) : b = false ∨ b = true := by cases b <;> simp
theorem drop_cons {α : Type} {l : List α} {k : Nat} {y : α} (h : l[k]? = some y) : l.drop k = y :: l.drop (k + 1) := by
  obtain ⟨hk, e⟩ := List.getElem?_eq_some_iff.1 h
  rw [List.drop_eq_getElem_cons hk, e]

set_option maxRecDepth 100000 in
set_option maxHeartbeats 40000000 in
theorem code_any (w : World) (B c rm : Nat) (pv : Value) (p : List FnP) (mk : FMap) (fn : Nat) (x : FnP) (hk : KCtx w B c rm pv p mk) (hx : p[fn]? = some x) (h0 : 0 < x.code.length) :
    Calls Tryz.prog 128 #[.pointer (some ⟨c, 0, none⟩), .int .i64 fn] w (fun e w' => e = .returned (.int .i64 (codeGo p fn x x.code 0 mk).1) ∧ KCtx w' B c rm pv p (codeGo p fn x x.code 0 mk).2 ∧ w.grownBy w' (some rm)) := by
  have hfn := (List.getElem?_eq_some_iff.1 hx).1
  obtain ⟨b, off, cp, rfl, hb⟩ := hk.shape (by omega)
  have hplim := hk.len
  obtain ⟨A3, c3, A4, c4, A5, c5, A6, c6, A7, c7, hv, g0, g1, g2, g3, g4, g5, g6, g7⟩ := (hk.fnAt hx).parts
  have hlen := hv.ints
  obtain ⟨b5, o5, rfl⟩ : ∃ b5 o5, A5 = some ⟨b5, o5, none⟩ := by
    obtain ⟨y, hy⟩ := getL h0
    obtain ⟨b5, o5, e, _⟩ := InsesV.at_ hv.code hy
    exact ⟨b5, o5, e⟩
  obtain ⟨k0, k125⟩ := hk.cells
  have hc := hk.ck.lt
  obtain ⟨w7, hw7⟩ : ∃ w7, w7 = w.alloc (.cells (fnCells x ⟨.slice A3 x.caps.length c3, .slice A4 x.consts.length c4, .slice (some ⟨b5, o5, none⟩) x.code.length c5, .slice A6 x.lines.length c6, .slice A7 x.handlers.length c7⟩) 56) := ⟨_, rfl⟩
  have hM7 : CMem w B c rm (.slice (some ⟨b, off, none⟩) p.length cp) p ⟨.slice A3 x.caps.length c3, .slice A4 x.consts.length c4, .slice (some ⟨b5, o5, none⟩) x.code.length c5, .slice A6 x.lines.length c6, .slice A7 x.handlers.length c7⟩ x mk w7 := by
    have h1 : Below w.heap.size w (w.alloc (.cells (fnCells x ⟨.slice A3 x.caps.length c3, .slice A4 x.consts.length c4, .slice (some ⟨b5, o5, none⟩) x.code.length c5, .slice A6 x.lines.length c6, .slice A7 x.handlers.length c7⟩) 56)) := (Below.refl _ _).alloc (Nat.le_refl _) _
    rw [hw7]
    exact ⟨hk.below h1, FBox.made hv hk.hB, Below.turn h1⟩
  have HM7 := Lib.hid hM7
  have HX := Lib.hid hx
  obtain ⟨f0, f1, f2, f3, f4, f5, f6, f7⟩ := hM7.fb.cells
  simp only at f3 f4 f5 f6 f7
  unfold fnCells at hw7
  simp only at hw7
  clear hk hv hx hM7
  go_enter Tryz.func128, Tryz.ntmps128
  go_upto_region 2 with fail
  rw [← hw7]
  clear hw7 g0 g1 g2 g3 g4 g5 g6 g7
  go_wp2_with fail
  clear f0 f1 f2 f3 f4 f5 f6 f7 k0 k125
  go_loopw [19] (fun i wr => ∃ (k : Nat) (mk' : FMap), k ≤ x.code.length ∧ i = .int .i64 k ∧ Hid (CMem w B c rm (.slice (some ⟨b, off, none⟩) p.length cp) p ⟨.slice A3 x.caps.length c3, .slice A4 x.consts.length c4, .slice (some ⟨b5, o5, none⟩) x.code.length c5, .slice A6 x.lines.length c6, .slice A7 x.handlers.length c7⟩ x mk' wr) ∧ Hid (codeGo p fn x x.code 0 mk = codeGo p fn x (x.code.drop k) k mk')) (fun i _ => x.code.length - (intOf i).toNat)
  case atStart => exact ⟨0, mk, Nat.zero_le _, rfl, HM7, Lib.hid (by simp)⟩
  case round =>
    obtain ⟨k, mk', hk, rfl, HM, HE⟩ := hrel
    by_cases hlt : k < x.code.length
    · obtain ⟨i, hi⟩ := getL hlt
      obtain ⟨b5', o5', e5, hb5, i0, i1, hop⟩ := InsesV.at_ HM.out.fb.fn.code hi
      injection e5 with e5
      injection e5 with e5 e5'
      subst e5 e5'
      obtain ⟨o, ho⟩ : ∃ o : Nat, i.op = (o : Int) := ⟨i.op.toNat, by omega⟩
      rw [ho] at i0
      obtain ⟨w4, hw4⟩ : ∃ w4, w4 = wr.alloc (.cells #[.int .u8 (o : Int), .int .i64 i.a] 117) := ⟨_, rfl⟩
      have HM4 : Hid (CMem w B c rm (.slice (some ⟨b, off, none⟩) p.length cp) p ⟨.slice A3 x.caps.length c3, .slice A4 x.consts.length c4, .slice (some ⟨b5, o5, none⟩) x.code.length c5, .slice A6 x.lines.length c6, .slice A7 x.handlers.length c7⟩ x mk' w4) := Lib.hid (by rw [hw4]; exact HM.out.below ((Below.refl _ _).alloc (Nat.le_refl _) _))
      have HI4 : Hid (wr.heap.size < w4.heap.size ∧ w4.cell? ⟨wr.heap.size, 0, none⟩ = some (.int .u8 (o : Int)) ∧ w4.cell? ⟨wr.heap.size, 1, none⟩ = some (.int .i64 i.a)) := Lib.hid ⟨by rw [hw4]; simp, by rw [hw4]; exact (Blk.new wr _ _).cell 0, by rw [hw4]; exact (Blk.new wr _ _).cell 1⟩
      obtain ⟨f0, f1, f2, f3, f4, f5, f6, f7⟩ := HM4.out.fb.cells
      simp only at f3 f4 f5 f6 f7
      obtain ⟨hls, j0, j1⟩ := HI4.out
      have hcr := HM4.out.kc.ck.lt
      have hfl := HM4.out.fb.box.lt
      have HI := Lib.hid hi
      have HO := Lib.hid ho
      have HS : Hid (codeGo p fn x (x.code.drop k) k mk' = if numB p.length x k i = true ∧ lastB x k i = false then (if i.op = 26 then (if makesB p mk' fn x i.a = true then codeGo p fn x (x.code.drop (k + 1)) (k + 1) (makesM mk' fn i.a) else ((k : Int), makesM mk' fn i.a)) else codeGo p fn x (x.code.drop (k + 1)) (k + 1) mk') else ((k : Int), mk')) := Lib.hid (by rw [drop_cons hi]; rfl)
      go_upto_region 5 with fail
      rw [← hw4]
      clear hw4 i0 i1 hi ho
      by_cases hNL : ¬ (k : Int) = (x.code.length : Int) - 1
      · skip
        have HL : Hid (lastB x k i = false) := Lib.hid (by
          unfold lastB; rw [HO.out]
          have hk1 : ¬ k + 1 = x.code.length := by omega
          simp [hk1])
        rcases bool_or (numB p.length x k i) with hnb | hnb
        · have HN : Hid (false = numB p.length x k i) := Lib.hid hnb.symm
          clear hnb
          go_wp2_with (go_at_call 158; refine (numbered_any w4 B c rm _ p mk' x ⟨.slice A3 x.caps.length c3, .slice A4 x.consts.length c4, .slice (some ⟨b5, o5, none⟩) x.code.length c5, .slice A6 x.lines.length c6, .slice A7 x.handlers.length c7⟩ k i HM4.out.kc (HM4.out.fb.fn.mono HM4.out.fb.hB) HI.out false HN.out).mono ?_; rintro e w5 ⟨rfl, hb5'⟩; have HM5 := Lib.hid (HM4.out.below hb5'); have s0 := (hb5'.cell (p := ⟨wr.heap.size, 0, none⟩) hls).trans j0; have s1 := (hb5'.cell (p := ⟨wr.heap.size, 1, none⟩) hls).trans j1; have hls5 := Nat.lt_of_lt_of_le hls hb5'.size; clear hb5')
          go_ret
          rw [HE.out, HS.out, if_neg (by rw [← HN.out]; simp)]
          exact ⟨rfl, HM5.out.kc, HM5.out.low⟩
        · have HN : Hid (true = numB p.length x k i) := Lib.hid hnb.symm
          by_cases h26 : (o : Int) = 26
          · have ha := numB_fn hnb (by rw [HO.out]; exact h26)
            clear hnb
            obtain ⟨m, hm⟩ : ∃ m : Nat, i.a = (m : Int) := ⟨i.a.toNat, by omega⟩
            rw [hm] at j1
            obtain ⟨z, hz⟩ := getL (show m < p.length by omega)
            have HZ := Lib.hid hz; have HMm := Lib.hid hm
            have d26 : decide ((o : Int) = 26) = true := (by simp [h26])
            have HO26 : Hid (i.op = 26) := Lib.hid (by rw [HO.out]; exact h26)
            clear hz hm
            rcases bool_or (makesB p mk' fn x (m : Int)) with hmb | hmb
            rotate_left
            · have HMB : Hid (true = makesB p mk' fn x (m : Int)) := Lib.hid hmb.symm
              clear hmb
              go_wp2_with (first | (go_at_call 158; refine (numbered_any w4 B c rm _ p mk' x ⟨.slice A3 x.caps.length c3, .slice A4 x.consts.length c4, .slice (some ⟨b5, o5, none⟩) x.code.length c5, .slice A6 x.lines.length c6, .slice A7 x.handlers.length c7⟩ k i HM4.out.kc (HM4.out.fb.fn.mono HM4.out.fb.hB) HI.out true HN.out).mono ?_; rintro e w5 ⟨rfl, hb5'⟩; have HM5 := Lib.hid (HM4.out.below hb5'); have s0 := (hb5'.cell (p := ⟨wr.heap.size, 0, none⟩) hls).trans j0; have s1 := (hb5'.cell (p := ⟨wr.heap.size, 1, none⟩) hls).trans j1; have hls5 := Nat.lt_of_lt_of_le hls hb5'.size; clear hb5') | (go_at_call 159; refine (makes_any w5 B c rm _ p mk' fn m x z HM5.out.kc HX.out HZ.out true HMB.out).mono ?_; rintro e w6 ⟨rfl, hk6, hg6⟩; have HM6 := Lib.hid (HM5.out.turn hk6 hg6); clear hk6 hg6))
              go_roundw
              case rel => exact ⟨k + 1, makesM mk' fn (m : Int), by omega, by go_num, HM6, Lib.hid (by rw [HE.out, HS.out, if_pos ⟨HN.out.symm, HL.out⟩, if_pos HO26.out, HMm.out, if_pos HMB.out.symm])⟩
              case measure => simp [intOf]; omega
            · have HMB : Hid (false = makesB p mk' fn x (m : Int)) := Lib.hid hmb.symm
              clear hmb
              go_wp2_with (first | (go_at_call 158; refine (numbered_any w4 B c rm _ p mk' x ⟨.slice A3 x.caps.length c3, .slice A4 x.consts.length c4, .slice (some ⟨b5, o5, none⟩) x.code.length c5, .slice A6 x.lines.length c6, .slice A7 x.handlers.length c7⟩ k i HM4.out.kc (HM4.out.fb.fn.mono HM4.out.fb.hB) HI.out true HN.out).mono ?_; rintro e w5 ⟨rfl, hb5'⟩; have HM5 := Lib.hid (HM4.out.below hb5'); have s0 := (hb5'.cell (p := ⟨wr.heap.size, 0, none⟩) hls).trans j0; have s1 := (hb5'.cell (p := ⟨wr.heap.size, 1, none⟩) hls).trans j1; have hls5 := Nat.lt_of_lt_of_le hls hb5'.size; clear hb5') | (go_at_call 159; refine (makes_any w5 B c rm _ p mk' fn m x z HM5.out.kc HX.out HZ.out false HMB.out).mono ?_; rintro e w6 ⟨rfl, hk6, hg6⟩; have HM6 := Lib.hid (HM5.out.turn hk6 hg6); clear hk6 hg6))
              go_ret
              rw [HE.out, HS.out, if_pos ⟨HN.out.symm, HL.out⟩, if_pos HO26.out, HMm.out, if_neg (by rw [← HMB.out]; simp)]
              exact ⟨rfl, HM6.out.kc, HM6.out.low⟩
          · have d26 : decide ((o : Int) = 26) = false := (by simp [h26])
            have HO26 : Hid (i.op = 26 → False) := Lib.hid (by rw [HO.out]; exact h26)
            clear hnb
            go_wp2_with (go_at_call 158; refine (numbered_any w4 B c rm _ p mk' x ⟨.slice A3 x.caps.length c3, .slice A4 x.consts.length c4, .slice (some ⟨b5, o5, none⟩) x.code.length c5, .slice A6 x.lines.length c6, .slice A7 x.handlers.length c7⟩ k i HM4.out.kc (HM4.out.fb.fn.mono HM4.out.fb.hB) HI.out true HN.out).mono ?_; rintro e w5 ⟨rfl, hb5'⟩; have HM5 := Lib.hid (HM4.out.below hb5'); have s0 := (hb5'.cell (p := ⟨wr.heap.size, 0, none⟩) hls).trans j0; have s1 := (hb5'.cell (p := ⟨wr.heap.size, 1, none⟩) hls).trans j1; have hls5 := Nat.lt_of_lt_of_le hls hb5'.size; clear hb5')
            go_roundw
            case rel => exact ⟨k + 1, mk', by omega, by go_num, HM5, Lib.hid (by rw [HE.out, HS.out, if_pos ⟨HN.out.symm, HL.out⟩, if_neg HO26.out])⟩
            case measure => simp [intOf]; omega
      · have hcl : x.code.length = k + 1 := by omega
        clear hNL
        rw [hcl] at f5 hlen HM4
        have HCL := Lib.hid hcl
        clear hcl
        by_cases h1 : (o : Int) = 28
        · have HL : Hid (lastB x k i = false) := Lib.hid (by
            unfold lastB; rw [HO.out]
            have hk1 : k + 1 = x.code.length := HCL.out.symm
            simp only [hk1, h1, decide_true, ne_eq, not_false_eq_true, not_true_eq_false, decide_false, Bool.true_and, Bool.false_and, Bool.and_true, Bool.and_false])
          rcases bool_or (numB p.length x k i) with hnb | hnb
          · have HN : Hid (false = numB p.length x k i) := Lib.hid hnb.symm
            clear hnb
            go_wp2_with (go_at_call 158; refine (numbered_any w4 B c rm _ p mk' x ⟨.slice A3 x.caps.length c3, .slice A4 x.consts.length c4, .slice (some ⟨b5, o5, none⟩) (k + 1) c5, .slice A6 x.lines.length c6, .slice A7 x.handlers.length c7⟩ k i HM4.out.kc (HM4.out.fb.fn.mono HM4.out.fb.hB) HI.out false HN.out).mono ?_; rintro e w5 ⟨rfl, hb5'⟩; have HM5 := Lib.hid (HM4.out.below hb5'); have s0 := (hb5'.cell (p := ⟨wr.heap.size, 0, none⟩) hls).trans j0; have s1 := (hb5'.cell (p := ⟨wr.heap.size, 1, none⟩) hls).trans j1; have hls5 := Nat.lt_of_lt_of_le hls hb5'.size; clear hb5')
            go_ret
            rw [HE.out, HS.out, if_neg (by rw [← HN.out]; simp)]
            exact ⟨rfl, HM5.out.kc, HM5.out.low⟩
          · have HN : Hid (true = numB p.length x k i) := Lib.hid hnb.symm
            have hne : ¬ (o : Int) = 26 := by omega
            have d26 : decide ((o : Int) = 26) = false := (by simp [hne])
            have HO26 : Hid (i.op = 26 → False) := Lib.hid (by rw [HO.out]; exact hne)
            clear hnb
            go_wp2_with (go_at_call 158; refine (numbered_any w4 B c rm _ p mk' x ⟨.slice A3 x.caps.length c3, .slice A4 x.consts.length c4, .slice (some ⟨b5, o5, none⟩) (k + 1) c5, .slice A6 x.lines.length c6, .slice A7 x.handlers.length c7⟩ k i HM4.out.kc (HM4.out.fb.fn.mono HM4.out.fb.hB) HI.out true HN.out).mono ?_; rintro e w5 ⟨rfl, hb5'⟩; have HM5 := Lib.hid (HM4.out.below hb5'); have s0 := (hb5'.cell (p := ⟨wr.heap.size, 0, none⟩) hls).trans j0; have s1 := (hb5'.cell (p := ⟨wr.heap.size, 1, none⟩) hls).trans j1; have hls5 := Nat.lt_of_lt_of_le hls hb5'.size; clear hb5')
            go_roundw
            case rel => exact ⟨k + 1, mk', by omega, by go_num, (by rw [HCL.out]; exact HM5), Lib.hid (by rw [HE.out, HS.out, if_pos ⟨HN.out.symm, HL.out⟩, if_neg HO26.out])⟩
            case measure => simp [intOf]; omega
        · by_cases h2 : (o : Int) = 29
          · have HL : Hid (lastB x k i = false) := Lib.hid (by
              unfold lastB; rw [HO.out]
              have hk1 : k + 1 = x.code.length := HCL.out.symm
              simp only [hk1, h1, h2, decide_true, ne_eq, not_false_eq_true, not_true_eq_false, decide_false, Bool.true_and, Bool.false_and, Bool.and_true, Bool.and_false])
            rcases bool_or (numB p.length x k i) with hnb | hnb
            · have HN : Hid (false = numB p.length x k i) := Lib.hid hnb.symm
              clear hnb
              go_wp2_with (go_at_call 158; refine (numbered_any w4 B c rm _ p mk' x ⟨.slice A3 x.caps.length c3, .slice A4 x.consts.length c4, .slice (some ⟨b5, o5, none⟩) (k + 1) c5, .slice A6 x.lines.length c6, .slice A7 x.handlers.length c7⟩ k i HM4.out.kc (HM4.out.fb.fn.mono HM4.out.fb.hB) HI.out false HN.out).mono ?_; rintro e w5 ⟨rfl, hb5'⟩; have HM5 := Lib.hid (HM4.out.below hb5'); have s0 := (hb5'.cell (p := ⟨wr.heap.size, 0, none⟩) hls).trans j0; have s1 := (hb5'.cell (p := ⟨wr.heap.size, 1, none⟩) hls).trans j1; have hls5 := Nat.lt_of_lt_of_le hls hb5'.size; clear hb5')
              go_ret
              rw [HE.out, HS.out, if_neg (by rw [← HN.out]; simp)]
              exact ⟨rfl, HM5.out.kc, HM5.out.low⟩
            · have HN : Hid (true = numB p.length x k i) := Lib.hid hnb.symm
              have hne : ¬ (o : Int) = 26 := by omega
              have d26 : decide ((o : Int) = 26) = false := (by simp [hne])
              have HO26 : Hid (i.op = 26 → False) := Lib.hid (by rw [HO.out]; exact hne)
              clear hnb
              go_wp2_with (go_at_call 158; refine (numbered_any w4 B c rm _ p mk' x ⟨.slice A3 x.caps.length c3, .slice A4 x.consts.length c4, .slice (some ⟨b5, o5, none⟩) (k + 1) c5, .slice A6 x.lines.length c6, .slice A7 x.handlers.length c7⟩ k i HM4.out.kc (HM4.out.fb.fn.mono HM4.out.fb.hB) HI.out true HN.out).mono ?_; rintro e w5 ⟨rfl, hb5'⟩; have HM5 := Lib.hid (HM4.out.below hb5'); have s0 := (hb5'.cell (p := ⟨wr.heap.size, 0, none⟩) hls).trans j0; have s1 := (hb5'.cell (p := ⟨wr.heap.size, 1, none⟩) hls).trans j1; have hls5 := Nat.lt_of_lt_of_le hls hb5'.size; clear hb5')
              go_roundw
              case rel => exact ⟨k + 1, mk', by omega, by go_num, (by rw [HCL.out]; exact HM5), Lib.hid (by rw [HE.out, HS.out, if_pos ⟨HN.out.symm, HL.out⟩, if_neg HO26.out])⟩
              case measure => simp [intOf]; omega
          · by_cases h3 : (o : Int) = 21
            · have HL : Hid (lastB x k i = false) := Lib.hid (by
                unfold lastB; rw [HO.out]
                have hk1 : k + 1 = x.code.length := HCL.out.symm
                simp only [hk1, h1, h2, h3, decide_true, ne_eq, not_false_eq_true, not_true_eq_false, decide_false, Bool.true_and, Bool.false_and, Bool.and_true, Bool.and_false])
              rcases bool_or (numB p.length x k i) with hnb | hnb
              · have HN : Hid (false = numB p.length x k i) := Lib.hid hnb.symm
                clear hnb
                go_wp2_with (go_at_call 158; refine (numbered_any w4 B c rm _ p mk' x ⟨.slice A3 x.caps.length c3, .slice A4 x.consts.length c4, .slice (some ⟨b5, o5, none⟩) (k + 1) c5, .slice A6 x.lines.length c6, .slice A7 x.handlers.length c7⟩ k i HM4.out.kc (HM4.out.fb.fn.mono HM4.out.fb.hB) HI.out false HN.out).mono ?_; rintro e w5 ⟨rfl, hb5'⟩; have HM5 := Lib.hid (HM4.out.below hb5'); have s0 := (hb5'.cell (p := ⟨wr.heap.size, 0, none⟩) hls).trans j0; have s1 := (hb5'.cell (p := ⟨wr.heap.size, 1, none⟩) hls).trans j1; have hls5 := Nat.lt_of_lt_of_le hls hb5'.size; clear hb5')
                go_ret
                rw [HE.out, HS.out, if_neg (by rw [← HN.out]; simp)]
                exact ⟨rfl, HM5.out.kc, HM5.out.low⟩
              · have HN : Hid (true = numB p.length x k i) := Lib.hid hnb.symm
                have hne : ¬ (o : Int) = 26 := by omega
                have d26 : decide ((o : Int) = 26) = false := (by simp [hne])
                have HO26 : Hid (i.op = 26 → False) := Lib.hid (by rw [HO.out]; exact hne)
                clear hnb
                go_wp2_with (go_at_call 158; refine (numbered_any w4 B c rm _ p mk' x ⟨.slice A3 x.caps.length c3, .slice A4 x.consts.length c4, .slice (some ⟨b5, o5, none⟩) (k + 1) c5, .slice A6 x.lines.length c6, .slice A7 x.handlers.length c7⟩ k i HM4.out.kc (HM4.out.fb.fn.mono HM4.out.fb.hB) HI.out true HN.out).mono ?_; rintro e w5 ⟨rfl, hb5'⟩; have HM5 := Lib.hid (HM4.out.below hb5'); have s0 := (hb5'.cell (p := ⟨wr.heap.size, 0, none⟩) hls).trans j0; have s1 := (hb5'.cell (p := ⟨wr.heap.size, 1, none⟩) hls).trans j1; have hls5 := Nat.lt_of_lt_of_le hls hb5'.size; clear hb5')
                go_roundw
                case rel => exact ⟨k + 1, mk', by omega, by go_num, (by rw [HCL.out]; exact HM5), Lib.hid (by rw [HE.out, HS.out, if_pos ⟨HN.out.symm, HL.out⟩, if_neg HO26.out])⟩
                case measure => simp [intOf]; omega
            · have HL : Hid (lastB x k i = true) := Lib.hid (by
                unfold lastB; rw [HO.out]
                have hk1 : k + 1 = x.code.length := HCL.out.symm
                simp only [hk1, h1, h2, h3, decide_true, ne_eq, not_false_eq_true, not_true_eq_false, decide_false, Bool.true_and, Bool.false_and, Bool.and_true, Bool.and_false])
              rcases bool_or (numB p.length x k i) with hnb | hnb
              · have HN : Hid (false = numB p.length x k i) := Lib.hid hnb.symm
                clear hnb
                go_wp2_with (go_at_call 158; refine (numbered_any w4 B c rm _ p mk' x ⟨.slice A3 x.caps.length c3, .slice A4 x.consts.length c4, .slice (some ⟨b5, o5, none⟩) (k + 1) c5, .slice A6 x.lines.length c6, .slice A7 x.handlers.length c7⟩ k i HM4.out.kc (HM4.out.fb.fn.mono HM4.out.fb.hB) HI.out false HN.out).mono ?_; rintro e w5 ⟨rfl, hb5'⟩; have HM5 := Lib.hid (HM4.out.below hb5'); have s0 := (hb5'.cell (p := ⟨wr.heap.size, 0, none⟩) hls).trans j0; have s1 := (hb5'.cell (p := ⟨wr.heap.size, 1, none⟩) hls).trans j1; have hls5 := Nat.lt_of_lt_of_le hls hb5'.size; clear hb5')
                go_ret
                rw [HE.out, HS.out, if_neg (by rw [← HN.out]; simp)]
                exact ⟨rfl, HM5.out.kc, HM5.out.low⟩
              · have HN : Hid (true = numB p.length x k i) := Lib.hid hnb.symm
                clear hnb
                go_wp2_with (go_at_call 158; refine (numbered_any w4 B c rm _ p mk' x ⟨.slice A3 x.caps.length c3, .slice A4 x.consts.length c4, .slice (some ⟨b5, o5, none⟩) (k + 1) c5, .slice A6 x.lines.length c6, .slice A7 x.handlers.length c7⟩ k i HM4.out.kc (HM4.out.fb.fn.mono HM4.out.fb.hB) HI.out true HN.out).mono ?_; rintro e w5 ⟨rfl, hb5'⟩; have HM5 := Lib.hid (HM4.out.below hb5'); have s0 := (hb5'.cell (p := ⟨wr.heap.size, 0, none⟩) hls).trans j0; have s1 := (hb5'.cell (p := ⟨wr.heap.size, 1, none⟩) hls).trans j1; have hls5 := Nat.lt_of_lt_of_le hls hb5'.size; clear hb5')
                go_ret
                rw [HE.out, HS.out, if_neg (by rw [HL.out]; simp)]
                exact ⟨rfl, HM5.out.kc, HM5.out.low⟩
    · go_wp2_with fail
      go_ret
      have he : codeGo p fn x (x.code.drop k) k mk' = (-1, mk') := by rw [List.drop_eq_nil_of_le (by omega)]; rfl
      rw [HE.out, he]
      exact ⟨rfl, HM.out.kc, HM.out.low⟩
end Go.Proofs.YtkmfdiboekoioaaGreat
