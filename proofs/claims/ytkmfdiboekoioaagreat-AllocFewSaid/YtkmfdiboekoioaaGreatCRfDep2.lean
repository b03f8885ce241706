/- The walk of the reference 9's depths: some list, some number. Conditions: a function that lies in memory, whose head and code may be. -/
import Derived.Test.YtkmfdiboekoioaaGreatCRfDep
import Derived.Deep.LoopGhost
set_option linter.unusedSimpArgs false
set_option linter.unusedVariables false
namespace Go.Proofs.YtkmfdiboekoioaaGreat
open Go.RowKit
theorem nexts_len (i : InsP) (pc : Nat) : (nexts09 i pc).length ≤ 2 := by
 unfold nexts09
 split
 ·simp
 ·split
  ·simp
  ·split <;> simp
theorem cnt_lt1 {a n k : Nat} (h : k < n) : a * (n + 1) + (n - (k + 1)) < a * (n + 1) + (n - k) := by omega
theorem cnt_lt2 {a b n k j : Nat} (h : b < a) (hk : k ≤ n) : b * (n + 1) + (n - j) < a * (n + 1) + (n - k) := by
 have h1 : (b + 1) * (n + 1) ≤ a * (n + 1) := Nat.mul_le_mul_right _ h
 have h2 : (b + 1) * (n + 1) = b * (n + 1) + (n + 1) := Nat.succ_mul _ _
 omega
theorem ints_only2 {w w' : World} {a b : Nat} {v : Value} {l : List Int} (h : IntsV w w.heap.size v l) (ho : Only2 a b w w') (hn : ∀ k, v.ownBlock = some k → k ≠ a ∧ k ≠ b) : IntsV w' w'.heap.size v l := by
 obtain ⟨A, c, rfl, hc, hl, hq⟩ := h
 refine ⟨A, c, rfl, hc, hl, fun h0 => ?_⟩
 obtain ⟨q, off, rfl, hb, hq⟩ := hq h0
 obtain ⟨n1, n2⟩ := hn q rfl
 exact ⟨q, off, rfl, by rw [ho.size]; exact hb, fun j z hz => (World.cell?_of_block (ho.block q n1 n2)).trans (hq j z hz)⟩
set_option maxRecDepth 100000 in
set_option maxHeartbeats 16000000 in
theorem ref09depths_any (w : World) (x : FnP) (y : FVals) (np : Nat) (hf : FnV w w.heap.size y x) (hh : HeadF x) (hc : CodeF np x) : Calls Tryz.prog 59 #[fval x y] w (Dep09 w) := by
 have HF := Lib.hid hf; have HH := Lib.hid hh; have HC := Lib.hid hc
 obtain ⟨A3, c3, A4, c4, A5, c5, A6, c6, A7, c7, ey, k3, k4, k5, k6, k7⟩ := fn_shape hf
 subst ey
 have hpos := hh.pos
 have hlen := hh.len
 obtain ⟨B5, o5, e5⟩ : ∃ b off, A5 = some ⟨b, off, none⟩ := by
  obtain ⟨A, c, e, _, _, h⟩ := hf.code
  injection e with e _ _
  obtain ⟨b, off, e2, _⟩ := h (by omega)
  exact ⟨b, off, e.trans e2⟩
 subst e5
 obtain ⟨i0, hi, hz0, hz1, hz2⟩ := info_parts int_info
 obtain ⟨i1, hi1, hy0, hy1, hy2⟩ := info_parts bool_info
 have hmk := fun W : World => run_make (P := Tryz.prog) W 168 4 i1 (.bool false) Tryz.underlying168 hi1 hy0 .i64 .i64 (x.code.length : Int) (x.code.length : Int) (by omega) (Int.le_refl _) (by rw [hy2]; omega) (by omega)
 simp only [hy1, Int.toNat_natCast, Value.cells, Nat.mul_one, bcells_made] at hmk
 clear hf hh hc
 unfold fval fnCells
 obtain ⟨w0, hw0⟩ : ∃ w0, w0 = w.alloc (.cells #[.string x.name, .int .i64 x.params, .int .i64 x.locals, .slice A3 x.caps.length c3, .slice A4 x.consts.length c4, .slice (some ⟨B5, o5, none⟩) x.code.length c5, .slice A6 x.lines.length c6, .slice A7 x.handlers.length c7] 56) := ⟨_, rfl⟩
 have hb0 : Below w.heap.size w w0 := by rw [hw0]; exact (Below.refl _ _).alloc (Nat.le_refl _) _
 have hk0 : Blk w0 w.heap.size 56 #[.string x.name, .int .i64 x.params, .int .i64 x.locals, .slice A3 x.caps.length c3, .slice A4 x.consts.length c4, .slice (some ⟨B5, o5, none⟩) x.code.length c5, .slice A6 x.lines.length c6, .slice A7 x.handlers.length c7] := by rw [hw0]; exact Blk.new _ _ _
 obtain ⟨w1, hw1⟩ : ∃ w1, w1 = (w0.alloc (.cells #[.slice none 0 0, .bool false] 167)).alloc (.cells (bcells x.code.length ISet.empty) 4) := ⟨_, rfl⟩
 have hb1 : Below w0.heap.size w0 w1 := by rw [hw1]; exact ((Below.refl _ _).alloc (Nat.le_refl _) _).alloc (by simp) _
 have HD0 : Hid (D1M w x ⟨.slice A3 x.caps.length c3, .slice A4 x.consts.length c4, .slice (some ⟨B5, o5, none⟩) x.code.length c5, .slice A6 x.lines.length c6, .slice A7 x.handlers.length c7⟩ x.code.length w0.heap.size (w0.heap.size + 1) (.slice none 0 0) 0 w1) := Lib.hid (by
  have hrow := Blk.new (w0.alloc (.cells #[.slice none 0 0, .bool false] 167)) 4 (bcells x.code.length ISet.empty)
  rw [World.size_alloc, ← hw1] at hrow
  have htl : Blk w1 w0.heap.size 167 #[.slice none 0 0, .bool false] := by rw [hw1]; exact (Blk.new _ _ _).alloc _
  have hlow := hb0.trans (hb1.mono hb0.size)
  exact ⟨hk0.below hb1 hk0.lt, HF.out.keep (Same.of_below hlow), htl, OwnInts.nil _ _, hrow, hlow, hk0.lt⟩)
 have q5 : w0.cell? ⟨w.heap.size, 5, none⟩ = some (.slice (some ⟨B5, o5, none⟩) x.code.length c5) := hk0.cell 5
 have ql := hk0.lt
 have HKb : Hid (w.heap.size < w0.heap.size + 1) := Lib.hid (Nat.lt_succ_of_lt hk0.lt)
 clear hb0 hk0 hb1
 go_enter Tryz.func59, Tryz.ntmps59
 go_upto_region 1 with fail
 rw [← hw0]
 clear hw0
 go_upto_region 4 with fail
 rw [← hw1]
 clear hw1 q5 ql hmk
 obtain ⟨tb, htb⟩ : ∃ tb, tb = w0.heap.size := ⟨_, rfl⟩
 rw [← htb] at HD0 HKb ⊢
 clear htb
 obtain ⟨kb, hkb⟩ : ∃ kb, kb = tb + 1 := ⟨_, rfl⟩
 rw [← hkb] at HD0 HKb ⊢
 clear hkb
 go_wp2_with fail
 go_loopw [7] (fun t wr => ∃ (k : Nat) (v : Value), k ≤ x.code.length ∧ t = .int .i64 k ∧ Hid (D1M w x ⟨.slice A3 x.caps.length c3, .slice A4 x.consts.length c4, .slice (some ⟨B5, o5, none⟩) x.code.length c5, .slice A6 x.lines.length c6, .slice A7 x.handlers.length c7⟩ x.code.length tb kb v k wr)) (fun t _ => x.code.length - (intOf t).toNat)
 case atStart => exact ⟨0, _, Nat.zero_le _, rfl, HD0⟩
 case round =>
  obtain ⟨k, v, hk, rfl, HD⟩ := hrel
  obtain ⟨wq, rfl⟩ : ∃ wq : World, wq = wr := ⟨_, rfl⟩
  have t0 : wq.cell? ⟨tb, 0, none⟩ = some v := HD.out.tb_.cell 0
  have tl := HD.out.tb_.lt
  by_cases hlt : k < x.code.length
  ·have hwl := HD.out.low.size
   go_wp2_with (at_builtin; refine wpList_append_own_at _ rfl (.tmp 35) (.tmp 36) 34 rfl w.heap.size 3 i0 (.int .i64 0) 1 8 Tryz.underlying34 hi hz0 hz1 hz2 rfl (by decide) _ _ _ rfl (World.ownsRow.alloc HD.out.own _) ⟨wq.heap.size, 0, none⟩ 1 1 [.int .i64 (-1)] rfl rfl (cell_one_new _ _ _) (ints_oneCell .i64 [-1]) (by rw [List.length_replicate]; unfold maxLen; omega) (by rw [List.length_replicate]; omega) (by simp; omega) ?_; intro v5 w5 hown5 hg5 _ _; obtain ⟨g5, cap5, rfl⟩ := ownsRow_succ hown5; obtain ⟨hd5, hb5⟩ := HD.out.put (OwnInts.snoc hown5) hg5; rw [List.length_replicate] at hd5; have HD5 := Lib.hid hd5; have u0 := hb5.cell 0; have u1 := hb5.frozen 0; have ul := hb5.lt; clear hown5 hg5 hd5 hb5)
   go_roundw
   case rel => exact ⟨k + 1, _, by omega, by go_num, HD5⟩
   case measure => simp [intOf]; omega
  ·have e : k = x.code.length := by omega
   subst e
   obtain ⟨lb, cap, ev, hm⟩ := HD.out.done (by omega)
   subst ev
   have HM0 := Lib.hid hm
   obtain ⟨z0, c0, ll⟩ := hm.told (j := 0) (by omega)
   have f0 : wq.frozen? ⟨lb, 0, none⟩ = false := World.ownsRow.frozenAt (n := x.code.length) (cap := cap) (by have := hm.tl.own; unfold OwnInts at this; rw [hm.tl.len] at this; exact this) 0
   clear hm
   go_upto_region 9 with fail
   obtain ⟨wz, hwz⟩ : ∃ wz, wz = wq.setCell ⟨lb, 0, none⟩ (.int .i64 0) := ⟨_, rfl⟩
   have HMz : Hid (∃ L, DpM w x ⟨.slice A3 x.caps.length c3, .slice A4 x.consts.length c4, .slice (some ⟨B5, o5, none⟩) x.code.length c5, .slice A6 x.lines.length c6, .slice A7 x.handlers.length c7⟩ x.code.length tb kb lb cap L false ISet.empty wz) := Lib.hid (by
    have hown : wq.ownsRow w.heap.size 3 1 (.slice (some ⟨lb, 0, none⟩) x.code.length cap) x.code.length ((List.replicate x.code.length (-1)).map (Value.int .i64)) := by have := HM0.out.tl.own; unfold OwnInts at this; rw [HM0.out.tl.len] at this; exact this
    refine ⟨(List.replicate x.code.length (-1)).set 0 0, HM0.out.tell ⟨?_, ?_, by simp, HM0.out.tl.ne⟩ ?_⟩
    ·rw [hwz]; exact HM0.out.tl.tb_.far (p := ⟨lb, 0, none⟩) HM0.out.tl.ne _
    ·rw [hwz]
     unfold OwnInts
     rw [List.length_set, List.length_replicate, List.map_set]
     exact (World.ownsRow.stored hown 0 (.int .i64 0)).1
    ·rw [hwz]; exact (Only2.refl tb lb wq).set2 0 _)
   rw [← hwz]
   clear hwz t0 tl c0 ll f0 HM0 HD HD0
   obtain ⟨L0, hm0⟩ := HMz.out
   have HM0 := Lib.hid hm0
   clear hm0 HMz
   go_wp2_with fail
   go_loopg [8] (x.code.length * (x.code.length + 1) + x.code.length) (fun cnt t wr => ∃ (pc : Nat) (L : List Int) (bad : Bool) (p : ISet), pc ≤ x.code.length ∧ t = .int .i64 pc ∧ Hid (cnt = (x.code.length - card x.code.length p) * (x.code.length + 1) + (x.code.length - pc)) ∧ Hid (DpM w x ⟨.slice A3 x.caps.length c3, .slice A4 x.consts.length c4, .slice (some ⟨B5, o5, none⟩) x.code.length c5, .slice A6 x.lines.length c6, .slice A7 x.handlers.length c7⟩ x.code.length tb kb lb cap L bad p wr))
   case atStart => exact ⟨0, L0, false, ISet.empty, Nat.zero_le _, rfl, Lib.hid (by rw [show card x.code.length ISet.empty = 0 from by simp [card, ISet.empty], Nat.sub_zero]), HM0⟩
   case round =>
    obtain ⟨pc, L, bad, p, hpc, rfl, HCnt, HM⟩ := hrel
    obtain ⟨wp, rfl⟩ : ∃ wp : World, wp = wr := ⟨_, rfl⟩
    clear HM0
    have t0 : wp.cell? ⟨tb, 0, none⟩ = some (.slice (some ⟨lb, 0, none⟩) x.code.length cap) := HM.out.tl.tb_.cell 0
    have tl := HM.out.tl.tb_.lt
    by_cases hlt : pc < x.code.length
    ·have k0 : wp.cell? ⟨kb, pc, none⟩ = some (.bool (p (pc : Int))) := (HM.out.tk.cell pc).trans (bcells_get hlt)
     have kf := HM.out.tk.frozen pc
     have kl := HM.out.tk.lt
     obtain ⟨z, z0, zl⟩ := HM.out.told hlt
     obtain ⟨tk, htk⟩ : ∃ tk, tk = p (pc : Int) := ⟨_, rfl⟩
     rw [← htk] at k0
     have HTk := Lib.hid htk
     clear htk
     cases tk
     rotate_left
     ·go_wp2_with fail
      go_roundg ((x.code.length - card x.code.length p) * (x.code.length + 1) + (x.code.length - (pc + 1)))
      case measure => rw [HCnt.out]; exact cnt_lt1 hlt
      case rel => exact ⟨pc + 1, L, bad, p, by omega, by go_num, Lib.hid rfl, HM⟩
     ·rcases dz : decide (z < 0) with _ | _
      rotate_left
      ·go_wp2_with fail
       go_roundg ((x.code.length - card x.code.length p) * (x.code.length + 1) + (x.code.length - (pc + 1)))
       case measure => rw [HCnt.out]; exact cnt_lt1 hlt
       case rel => exact ⟨pc + 1, L, bad, p, by omega, by go_num, Lib.hid rfl, HM⟩
      ·go_upto_region 14 with fail
       obtain ⟨w2, hw2⟩ : ∃ w2, w2 = wp.setCell ⟨kb, pc, none⟩ (.bool true) := ⟨_, rfl⟩
       have HM2 : Hid (DpM w x ⟨.slice A3 x.caps.length c3, .slice A4 x.consts.length c4, .slice (some ⟨B5, o5, none⟩) x.code.length c5, .slice A6 x.lines.length c6, .slice A7 x.handlers.length c7⟩ x.code.length tb kb lb cap L bad (fun z => p z || z == (pc : Int)) w2) := Lib.hid (by rw [hw2]; exact HM.out.take hlt HKb.out)
       rw [← hw2]
       clear hw2 t0 tl k0 kf kl z0 zl dz
       obtain ⟨i, hi'⟩ := rget hlt
       have HI := Lib.hid hi'
       obtain ⟨f0, f1, _⟩ : InsAt w2 B5 (o5 + pc * 2) i := by
        obtain ⟨A, c, e, _, _, h⟩ := HM2.out.fv.code
        injection e with e _ _
        obtain ⟨b, off, e2, h1, h2⟩ := h (by omega)
        rw [← e] at e2
        injection e2 with e2
        injection e2 with e2 e3
        subst e2 e3
        exact h2 pc i hi'
       have t0 : w2.cell? ⟨tb, 0, none⟩ = some (.slice (some ⟨lb, 0, none⟩) x.code.length cap) := HM2.out.tl.tb_.cell 0
       have tl := HM2.out.tl.tb_.lt
       have q5 : w2.cell? ⟨w.heap.size, 5, none⟩ = some (.slice (some ⟨B5, o5, none⟩) x.code.length c5) := HM2.out.fb.cell 5
       have ql := HM2.out.fb.lt
       obtain ⟨d, d0, dl⟩ := HM2.out.told hlt
       have HCd : Hid ((x.code.length - card x.code.length (fun z => p z || z == (pc : Int))) < x.code.length - card x.code.length p) := Lib.hid (by
        have h1 := card_put (N := x.code.length) (p := p) (b := (pc : Int)) (by omega) (by omega) HTk.out.symm
        have h2 := card_le x.code.length (fun z => p z || z == (pc : Int))
        omega)
       clear hi'
       go_upto_region 16 with (go_at_call 110; refine (ref09Takes_any w2 i.op i.a).mono ?_; rintro e w3 ⟨⟨tk, lv, rfl⟩, hb3⟩; have HB3 := Lib.hid hb3; clear hb3)
       clear t0 tl q5 ql f0 f1 d0 dl
       have HM3 := Lib.hid (HM2.out.below HB3.out)
       obtain ⟨wt, hwt⟩ : ∃ wt, wt = w3 := ⟨_, rfl⟩
       rw [← hwt] at HM3 ⊢
       clear hwt
       have HP : Hid (∃ p', p' = (fun z => p z || z == (pc : Int))) := Lib.hid ⟨_, rfl⟩
       obtain ⟨p', hp'⟩ := HP.out
       rw [← hp'] at HM3 HCd
       clear hp' HP HM2 HM HB3
       have t0 : wt.cell? ⟨w.heap.size, 5, none⟩ = some (.slice (some ⟨B5, o5, none⟩) x.code.length c5) := HM3.out.fb.cell 5
       have tl := HM3.out.fb.lt
       have f0 : wt.cell? ⟨B5, o5 + pc * 2, none⟩ = some (.int .u8 i.op) := by
        obtain ⟨A, c, e, _, _, h⟩ := HM3.out.fv.code
        injection e with e _ _
        obtain ⟨b, off, e2, h1, h2⟩ := h (by omega)
        rw [← e] at e2
        injection e2 with e2
        injection e2 with e2 e3
        subst e2 e3
        exact (h2 pc i HI.out).1
       rcases e1 : decide (d < tk) with _ | _
       rotate_left
       ·go_wp2_with fail
        refine bodyPost_ret (results_tmp2 rfl _ _ _) rfl ?_
        exact ⟨[], _, _, rfl, IntsV.nil _ _, HM3.out.low⟩
       rcases e2 : decide (256 < wrap64 (wrap64 (d - tk) + lv)) with _ | _
       rotate_left
       ·go_wp2_with fail
        refine bodyPost_ret (results_tmp2 rfl _ _ _) rfl ?_
        exact ⟨[], _, _, rfl, IntsV.nil _ _, HM3.out.low⟩
       obtain ⟨ce, hce⟩ : ∃ ce, ce = ((i.op == 21) && (d != 0)) := ⟨_, rfl⟩
       rcases e3 : (i.op == 21) with _ | _
       rotate_left
       ·rcases e4 : (d != 0) with _ | _
        rotate_left
        ·go_wp2_with fail
         refine bodyPost_ret (results_tmp2 rfl _ _ _) rfl ?_
         exact ⟨[], _, _, rfl, IntsV.nil _ _, HM3.out.low⟩
        ·clear hce
         go_upto_region 19 with fail
         clear t0 tl f0
         go_loopw [12] (fun t wr => ∃ k : Nat, k ≤ x.handlers.length ∧ t = .int .i64 k ∧ Hid (Below wt.heap.size wt wr)) (fun t _ => x.handlers.length - (intOf t).toNat)
         case atStart => exact ⟨0, Nat.zero_le _, rfl, Lib.hid (Below.refl _ _)⟩
         case round =>
          obtain ⟨k, hk, rfl, HB⟩ := hrel
          obtain ⟨wq, rfl⟩ : ∃ wq : World, wq = wr := ⟨_, rfl⟩
          have HMq := Lib.hid (HM3.out.below HB.out)
          have q7 : wq.cell? ⟨w.heap.size, 7, none⟩ = some (.slice A7 x.handlers.length c7) := HMq.out.fb.cell 7
          have ql := HMq.out.fb.lt
          by_cases hk2 : k < x.handlers.length
          ·skip
           obtain ⟨h, hh'⟩ := rget hk2
           obtain ⟨b7, o7, e7, hb7, j0, j1, j2, j3⟩ := hand_at HMq.out.fv.handlers hh'
           have HHd := Lib.hid (HH.out.hands h (List.mem_of_getElem? hh'))
           rw [e7] at q7
           clear e7 hh'
           obtain ⟨w4, hw4⟩ : ∃ w4, w4 = wq.alloc (.cells #[.int .i64 h.from_, .int .i64 h.to_, .int .i64 h.at_, .int .i64 h.deep] 161) := ⟨_, rfl⟩
           have HB4 : Hid (Below wq.heap.size wq w4) := Lib.hid (by rw [hw4]; exact (Below.refl _ _).alloc (Nat.le_refl _) _)
           have HK4 : Hid (Blk w4 wq.heap.size 161 #[.int .i64 h.from_, .int .i64 h.to_, .int .i64 h.at_, .int .i64 h.deep]) := Lib.hid (by rw [hw4]; exact Blk.new _ _ _)
           go_upto_region 22 with fail
           rw [← hw4]
           clear hw4 q7 ql j0 j1 j2 j3 hb7
           have j0 := HK4.out.cell 0
           have j1 := HK4.out.cell 1
           have j2 := HK4.out.cell 2
           have j3 := HK4.out.cell 3
           have jl := HK4.out.lt
           rcases g1 : decide (h.from_ ≤ (pc : Int)) with _ | _
           ·skip
            go_wp2_with fail
            go_roundw
            case rel => exact ⟨k + 1, by omega, by go_num, Lib.hid (HB.out.trans (HB4.out.mono HB.out.size))⟩
            case measure => simp [intOf]; omega
           rcases g2 : decide ((pc : Int) < h.to_) with _ | _
           ·skip
            go_wp2_with fail
            go_roundw
            case rel => exact ⟨k + 1, by omega, by go_num, Lib.hid (HB.out.trans (HB4.out.mono HB.out.size))⟩
            case measure => simp [intOf]; omega
           rcases g3 : decide (wrap64 (d - tk) < h.deep) with _ | _
           ·skip
            go_wp2_with fail
            go_roundw
            case rel => exact ⟨k + 1, by omega, by go_num, Lib.hid (HB.out.trans (HB4.out.mono HB.out.size))⟩
            case measure => simp [intOf]; omega
           go_wp2_with fail
           refine bodyPost_ret (results_tmp2 rfl _ _ _) rfl ?_
           exact ⟨[], _, _, rfl, IntsV.nil _ _, (HMq.out.below HB4.out).low⟩
          ·clear HB
           go_upto_region 25 with fail
           go_loopw [14] (fun t wr => ∃ (k : Nat) (L' : List Int) (bad' : Bool), k ≤ x.handlers.length ∧ t = .int .i64 k ∧ Hid (DpM w x ⟨.slice A3 x.caps.length c3, .slice A4 x.consts.length c4, .slice (some ⟨B5, o5, none⟩) x.code.length c5, .slice A6 x.lines.length c6, .slice A7 x.handlers.length c7⟩ x.code.length tb kb lb cap L' bad' p' wr)) (fun t _ => x.handlers.length - (intOf t).toNat)
           case atStart => exact ⟨0, _, _, Nat.zero_le _, rfl, HMq⟩
           case round =>
            clear HMq
            obtain ⟨k, L', bad', hk, rfl, HMq⟩ := hrel
            obtain ⟨wq, rfl⟩ : ∃ wq : World, wq = wr := ⟨_, rfl⟩
            have q7 : wq.cell? ⟨w.heap.size, 7, none⟩ = some (.slice A7 x.handlers.length c7) := HMq.out.fb.cell 7
            have ql := HMq.out.fb.lt
            by_cases hk2 : k < x.handlers.length
            ·skip
             obtain ⟨h, hh'⟩ := rget hk2
             obtain ⟨b7, o7, e7, hb7, j0, j1, j2, j3⟩ := hand_at HMq.out.fv.handlers hh'
             have HHd := Lib.hid (HH.out.hands h (List.mem_of_getElem? hh'))
             rw [e7] at q7
             clear e7 hh'
             obtain ⟨w4, hw4⟩ : ∃ w4, w4 = wq.alloc (.cells #[.int .i64 h.from_, .int .i64 h.to_, .int .i64 h.at_, .int .i64 h.deep] 161) := ⟨_, rfl⟩
             have HB4 : Hid (Below wq.heap.size wq w4) := Lib.hid (by rw [hw4]; exact (Below.refl _ _).alloc (Nat.le_refl _) _)
             have HK4 : Hid (Blk w4 wq.heap.size 161 #[.int .i64 h.from_, .int .i64 h.to_, .int .i64 h.at_, .int .i64 h.deep]) := Lib.hid (by rw [hw4]; exact Blk.new _ _ _)
             go_upto_region 28 with fail
             rw [← hw4]
             clear hw4 q7 ql j0 j1 j2 j3 hb7
             have j0 := HK4.out.cell 0
             have j1 := HK4.out.cell 1
             have j2 := HK4.out.cell 2
             have j3 := HK4.out.cell 3
             have jl := HK4.out.lt
             rcases g1 : decide (h.from_ ≤ (pc : Int)) with _ | _
             ·skip
              go_wp2_with fail
              go_roundw
              case rel => exact ⟨k + 1, L', bad', by omega, by go_num, Lib.hid (HMq.out.below HB4.out)⟩
              case measure => simp [intOf]; omega
             rcases g2 : decide ((pc : Int) < h.to_) with _ | _
             ·skip
              go_wp2_with fail
              go_roundw
              case rel => exact ⟨k + 1, L', bad', by omega, by go_num, Lib.hid (HMq.out.below HB4.out)⟩
              case measure => simp [intOf]; omega
             obtain ⟨ha, hha⟩ : ∃ m : Nat, h.at_ = (m : Int) := ⟨h.at_.toNat, by have := HHd.out; omega⟩
             have hal : ha < x.code.length := by have := HHd.out; omega
             have j2' : w4.cell? ⟨wq.heap.size, 2, none⟩ = some (.int .i64 (ha : Int)) := by rw [← hha]; exact j2
             clear j2 hha
             have HM4 := Lib.hid (HMq.out.below HB4.out)
             go_wp2_with (go_at_call 111; refine (tell09_any w4 tb lb w.heap.size x.code.length cap L' bad' ha _ HM4.out.tl hal (by omega)).mono ?_; rintro e w8 ⟨L8, bad8, rfl, h1, h2⟩; have HM8 := Lib.hid (HM4.out.tell h1 h2); clear h1 h2)
             go_roundw
             case rel => exact ⟨k + 1, L8, bad8, by omega, by go_num, HM8⟩
             case measure => simp [intOf]; omega
            ·have HNx := Lib.hid (ref09Nexts_any wq x ⟨.slice A3 x.caps.length c3, .slice A4 x.consts.length c4, .slice (some ⟨B5, o5, none⟩) x.code.length c5, .slice A6 x.lines.length c6, .slice A7 x.handlers.length c7⟩ pc i (HMq.out.fv.mono HMq.out.low.size) HI.out)
             have g0 : wq.cell? ⟨w.heap.size, 0, none⟩ = some (.string x.name) := HMq.out.fb.cell 0
             have g1 : wq.cell? ⟨w.heap.size, 1, none⟩ = some (.int .i64 x.params) := HMq.out.fb.cell 1
             have g2 : wq.cell? ⟨w.heap.size, 2, none⟩ = some (.int .i64 x.locals) := HMq.out.fb.cell 2
             have g3 : wq.cell? ⟨w.heap.size, 3, none⟩ = some (.slice A3 x.caps.length c3) := HMq.out.fb.cell 3
             have g4 : wq.cell? ⟨w.heap.size, 4, none⟩ = some (.slice A4 x.consts.length c4) := HMq.out.fb.cell 4
             have g5 : wq.cell? ⟨w.heap.size, 5, none⟩ = some (.slice (some ⟨B5, o5, none⟩) x.code.length c5) := HMq.out.fb.cell 5
             have g6 : wq.cell? ⟨w.heap.size, 6, none⟩ = some (.slice A6 x.lines.length c6) := HMq.out.fb.cell 6
             unfold fval fnCells at HNx
             go_upto_region 31 with (go_at_call 112; (with_reducible refine Calls.mono HNx.out ?_); rintro e w6 ⟨v6, rfl, h1, h2, h3⟩; obtain ⟨Av, cv, rfl, _⟩ := id h1; have HLs := Lib.hid h1; have HM6 := Lib.hid (HMq.out.below h2); have HFr : Hid (∀ k, (Value.slice Av (nexts09 i pc).length cv).ownBlock = some k → k ≠ tb ∧ k ≠ lb) := Lib.hid (fun k hk => by have h4 := h3 k hk; have h5 := HMq.out.tl.tb_.lt; have h6 := (World.ownsRow.lt HMq.out.tl.own lb rfl).2; omega); clear h1 h2 h3)
             clear g0 g1 g2 g3 g4 g5 g6 q7 ql
             have hnl := nexts_len i pc
             go_upto_region 32 with fail
             go_loopw [17] (fun t wr => ∃ (k : Nat) (L' : List Int) (bad' : Bool), k ≤ (nexts09 i pc).length ∧ t = .int .i64 k ∧ Hid (DpM w x ⟨.slice A3 x.caps.length c3, .slice A4 x.consts.length c4, .slice (some ⟨B5, o5, none⟩) x.code.length c5, .slice A6 x.lines.length c6, .slice A7 x.handlers.length c7⟩ x.code.length tb kb lb cap L' bad' p' wr) ∧ Hid (IntsV wr wr.heap.size (.slice Av (nexts09 i pc).length cv) (nexts09 i pc))) (fun t _ => (nexts09 i pc).length - (intOf t).toNat)
             case atStart => exact ⟨0, _, _, Nat.zero_le _, rfl, HM6, HLs⟩
             case round =>
              obtain ⟨k, L', bad', hk, rfl, HMq, HLs⟩ := hrel
              obtain ⟨wq, rfl⟩ : ∃ wq : World, wq = wr := ⟨_, rfl⟩
              clear HM6
              by_cases hk2 : k < (nexts09 i pc).length
              ·obtain ⟨bv, ov, ev, _, hpv⟩ := HLs.out.cells hk2
               subst ev
               obtain ⟨u, hu⟩ := rget hk2
               have v0 := hpv k u hu
               obtain ⟨u0, u1⟩ := next_in HC.out HI.out u (List.mem_of_getElem? hu)
               obtain ⟨un, rfl⟩ : ∃ m : Nat, u = (m : Int) := ⟨u.toNat, by omega⟩
               clear hpv hu u0
               go_wp2_with (go_at_call 111; refine (tell09_any wq tb lb w.heap.size x.code.length cap L' bad' un _ HMq.out.tl (by omega) (by omega)).mono ?_; rintro e w8 ⟨L8, bad8, rfl, h1, h2⟩; have HM8 := Lib.hid (HMq.out.tell h1 h2); have HL8 := Lib.hid (ints_only2 HLs.out h2 HFr.out); clear h1 h2)
               go_roundw
               case rel => exact ⟨k + 1, L8, bad8, by omega, by go_num, HM8, HL8⟩
               case measure => simp [intOf]; omega
              ·have b1 : wq.cell? ⟨tb, 1, none⟩ = some (.bool bad') := HMq.out.tl.tb_.cell 1
               have bl := HMq.out.tl.tb_.lt
               cases bad'
               rotate_left
               ·go_wp2_with fail
                refine bodyPost_ret (results_tmp2 rfl _ _ _) rfl ?_
                exact ⟨[], _, _, rfl, IntsV.nil _ _, HMq.out.low⟩
               ·skip
                go_upto_region 38 with fail
                go_loopw [8, 18] (fun t j wr => ∃ (q k : Nat), q ≤ x.code.length ∧ t = .int .i64 q ∧ k ≤ (nexts09 i pc).length ∧ j = .int .i64 k ∧ Hid (wr = wq)) (fun _ j _ => (nexts09 i pc).length - (intOf j).toNat)
                case atStart => exact ⟨pc, 0, hpc, rfl, Nat.zero_le _, rfl, Lib.hid rfl⟩
                case round =>
                 obtain ⟨q, k, hq, rfl, hk, rfl, hw'⟩ := hrel
                 have hw2 := hw'.out
                 subst hw2
                 by_cases hk2 : k < (nexts09 i pc).length
                 ·obtain ⟨bv, ov, ev, _, hpv⟩ := HLs.out.cells hk2
                  subst ev
                  obtain ⟨u, hu⟩ := rget hk2
                  have v0 := hpv k u hu
                  obtain ⟨u0, u1⟩ := next_in HC.out HI.out u (List.mem_of_getElem? hu)
                  obtain ⟨un, rfl⟩ : ∃ m : Nat, u = (m : Int) := ⟨u.toNat, by omega⟩
                  clear hpv hu u0
                  go_wp2_with fail
                  go_roundw
                  case rel => exact ⟨min q un, k + 1, by omega, by (try simp); omega, by omega, by go_num, (by first | exact Lib.hid rfl | exact Lib.hid trivial)⟩
                  case measure => simp [intOf]; omega
                 ·go_wp2_with fail
                  go_roundg ((x.code.length - card x.code.length p') * (x.code.length + 1) + (x.code.length - q))
                  case measure => rw [HCnt.out]; exact cnt_lt2 HCd.out hpc
                  case rel => exact ⟨q, L', false, p', hq, rfl, Lib.hid rfl, HMq⟩
       ·clear hce
        go_upto_region 19 with fail
        clear t0 tl f0
        go_loopw [12] (fun t wr => ∃ k : Nat, k ≤ x.handlers.length ∧ t = .int .i64 k ∧ Hid (Below wt.heap.size wt wr)) (fun t _ => x.handlers.length - (intOf t).toNat)
        case atStart => exact ⟨0, Nat.zero_le _, rfl, Lib.hid (Below.refl _ _)⟩
        case round =>
         obtain ⟨k, hk, rfl, HB⟩ := hrel
         obtain ⟨wq, rfl⟩ : ∃ wq : World, wq = wr := ⟨_, rfl⟩
         have HMq := Lib.hid (HM3.out.below HB.out)
         have q7 : wq.cell? ⟨w.heap.size, 7, none⟩ = some (.slice A7 x.handlers.length c7) := HMq.out.fb.cell 7
         have ql := HMq.out.fb.lt
         by_cases hk2 : k < x.handlers.length
         ·skip
          obtain ⟨h, hh'⟩ := rget hk2
          obtain ⟨b7, o7, e7, hb7, j0, j1, j2, j3⟩ := hand_at HMq.out.fv.handlers hh'
          have HHd := Lib.hid (HH.out.hands h (List.mem_of_getElem? hh'))
          rw [e7] at q7
          clear e7 hh'
          obtain ⟨w4, hw4⟩ : ∃ w4, w4 = wq.alloc (.cells #[.int .i64 h.from_, .int .i64 h.to_, .int .i64 h.at_, .int .i64 h.deep] 161) := ⟨_, rfl⟩
          have HB4 : Hid (Below wq.heap.size wq w4) := Lib.hid (by rw [hw4]; exact (Below.refl _ _).alloc (Nat.le_refl _) _)
          have HK4 : Hid (Blk w4 wq.heap.size 161 #[.int .i64 h.from_, .int .i64 h.to_, .int .i64 h.at_, .int .i64 h.deep]) := Lib.hid (by rw [hw4]; exact Blk.new _ _ _)
          go_upto_region 22 with fail
          rw [← hw4]
          clear hw4 q7 ql j0 j1 j2 j3 hb7
          have j0 := HK4.out.cell 0
          have j1 := HK4.out.cell 1
          have j2 := HK4.out.cell 2
          have j3 := HK4.out.cell 3
          have jl := HK4.out.lt
          rcases g1 : decide (h.from_ ≤ (pc : Int)) with _ | _
          ·skip
           go_wp2_with fail
           go_roundw
           case rel => exact ⟨k + 1, by omega, by go_num, Lib.hid (HB.out.trans (HB4.out.mono HB.out.size))⟩
           case measure => simp [intOf]; omega
          rcases g2 : decide ((pc : Int) < h.to_) with _ | _
          ·skip
           go_wp2_with fail
           go_roundw
           case rel => exact ⟨k + 1, by omega, by go_num, Lib.hid (HB.out.trans (HB4.out.mono HB.out.size))⟩
           case measure => simp [intOf]; omega
          rcases g3 : decide (wrap64 (d - tk) < h.deep) with _ | _
          ·skip
           go_wp2_with fail
           go_roundw
           case rel => exact ⟨k + 1, by omega, by go_num, Lib.hid (HB.out.trans (HB4.out.mono HB.out.size))⟩
           case measure => simp [intOf]; omega
          go_wp2_with fail
          refine bodyPost_ret (results_tmp2 rfl _ _ _) rfl ?_
          exact ⟨[], _, _, rfl, IntsV.nil _ _, (HMq.out.below HB4.out).low⟩
         ·clear HB
          go_upto_region 25 with fail
          go_loopw [14] (fun t wr => ∃ (k : Nat) (L' : List Int) (bad' : Bool), k ≤ x.handlers.length ∧ t = .int .i64 k ∧ Hid (DpM w x ⟨.slice A3 x.caps.length c3, .slice A4 x.consts.length c4, .slice (some ⟨B5, o5, none⟩) x.code.length c5, .slice A6 x.lines.length c6, .slice A7 x.handlers.length c7⟩ x.code.length tb kb lb cap L' bad' p' wr)) (fun t _ => x.handlers.length - (intOf t).toNat)
          case atStart => exact ⟨0, _, _, Nat.zero_le _, rfl, HMq⟩
          case round =>
           clear HMq
           obtain ⟨k, L', bad', hk, rfl, HMq⟩ := hrel
           obtain ⟨wq, rfl⟩ : ∃ wq : World, wq = wr := ⟨_, rfl⟩
           have q7 : wq.cell? ⟨w.heap.size, 7, none⟩ = some (.slice A7 x.handlers.length c7) := HMq.out.fb.cell 7
           have ql := HMq.out.fb.lt
           by_cases hk2 : k < x.handlers.length
           ·skip
            obtain ⟨h, hh'⟩ := rget hk2
            obtain ⟨b7, o7, e7, hb7, j0, j1, j2, j3⟩ := hand_at HMq.out.fv.handlers hh'
            have HHd := Lib.hid (HH.out.hands h (List.mem_of_getElem? hh'))
            rw [e7] at q7
            clear e7 hh'
            obtain ⟨w4, hw4⟩ : ∃ w4, w4 = wq.alloc (.cells #[.int .i64 h.from_, .int .i64 h.to_, .int .i64 h.at_, .int .i64 h.deep] 161) := ⟨_, rfl⟩
            have HB4 : Hid (Below wq.heap.size wq w4) := Lib.hid (by rw [hw4]; exact (Below.refl _ _).alloc (Nat.le_refl _) _)
            have HK4 : Hid (Blk w4 wq.heap.size 161 #[.int .i64 h.from_, .int .i64 h.to_, .int .i64 h.at_, .int .i64 h.deep]) := Lib.hid (by rw [hw4]; exact Blk.new _ _ _)
            go_upto_region 28 with fail
            rw [← hw4]
            clear hw4 q7 ql j0 j1 j2 j3 hb7
            have j0 := HK4.out.cell 0
            have j1 := HK4.out.cell 1
            have j2 := HK4.out.cell 2
            have j3 := HK4.out.cell 3
            have jl := HK4.out.lt
            rcases g1 : decide (h.from_ ≤ (pc : Int)) with _ | _
            ·skip
             go_wp2_with fail
             go_roundw
             case rel => exact ⟨k + 1, L', bad', by omega, by go_num, Lib.hid (HMq.out.below HB4.out)⟩
             case measure => simp [intOf]; omega
            rcases g2 : decide ((pc : Int) < h.to_) with _ | _
            ·skip
             go_wp2_with fail
             go_roundw
             case rel => exact ⟨k + 1, L', bad', by omega, by go_num, Lib.hid (HMq.out.below HB4.out)⟩
             case measure => simp [intOf]; omega
            obtain ⟨ha, hha⟩ : ∃ m : Nat, h.at_ = (m : Int) := ⟨h.at_.toNat, by have := HHd.out; omega⟩
            have hal : ha < x.code.length := by have := HHd.out; omega
            have j2' : w4.cell? ⟨wq.heap.size, 2, none⟩ = some (.int .i64 (ha : Int)) := by rw [← hha]; exact j2
            clear j2 hha
            have HM4 := Lib.hid (HMq.out.below HB4.out)
            go_wp2_with (go_at_call 111; refine (tell09_any w4 tb lb w.heap.size x.code.length cap L' bad' ha _ HM4.out.tl hal (by omega)).mono ?_; rintro e w8 ⟨L8, bad8, rfl, h1, h2⟩; have HM8 := Lib.hid (HM4.out.tell h1 h2); clear h1 h2)
            go_roundw
            case rel => exact ⟨k + 1, L8, bad8, by omega, by go_num, HM8⟩
            case measure => simp [intOf]; omega
           ·have HNx := Lib.hid (ref09Nexts_any wq x ⟨.slice A3 x.caps.length c3, .slice A4 x.consts.length c4, .slice (some ⟨B5, o5, none⟩) x.code.length c5, .slice A6 x.lines.length c6, .slice A7 x.handlers.length c7⟩ pc i (HMq.out.fv.mono HMq.out.low.size) HI.out)
            have g0 : wq.cell? ⟨w.heap.size, 0, none⟩ = some (.string x.name) := HMq.out.fb.cell 0
            have g1 : wq.cell? ⟨w.heap.size, 1, none⟩ = some (.int .i64 x.params) := HMq.out.fb.cell 1
            have g2 : wq.cell? ⟨w.heap.size, 2, none⟩ = some (.int .i64 x.locals) := HMq.out.fb.cell 2
            have g3 : wq.cell? ⟨w.heap.size, 3, none⟩ = some (.slice A3 x.caps.length c3) := HMq.out.fb.cell 3
            have g4 : wq.cell? ⟨w.heap.size, 4, none⟩ = some (.slice A4 x.consts.length c4) := HMq.out.fb.cell 4
            have g5 : wq.cell? ⟨w.heap.size, 5, none⟩ = some (.slice (some ⟨B5, o5, none⟩) x.code.length c5) := HMq.out.fb.cell 5
            have g6 : wq.cell? ⟨w.heap.size, 6, none⟩ = some (.slice A6 x.lines.length c6) := HMq.out.fb.cell 6
            unfold fval fnCells at HNx
            go_upto_region 31 with (go_at_call 112; (with_reducible refine Calls.mono HNx.out ?_); rintro e w6 ⟨v6, rfl, h1, h2, h3⟩; obtain ⟨Av, cv, rfl, _⟩ := id h1; have HLs := Lib.hid h1; have HM6 := Lib.hid (HMq.out.below h2); have HFr : Hid (∀ k, (Value.slice Av (nexts09 i pc).length cv).ownBlock = some k → k ≠ tb ∧ k ≠ lb) := Lib.hid (fun k hk => by have h4 := h3 k hk; have h5 := HMq.out.tl.tb_.lt; have h6 := (World.ownsRow.lt HMq.out.tl.own lb rfl).2; omega); clear h1 h2 h3)
            clear g0 g1 g2 g3 g4 g5 g6 q7 ql
            have hnl := nexts_len i pc
            go_upto_region 32 with fail
            go_loopw [17] (fun t wr => ∃ (k : Nat) (L' : List Int) (bad' : Bool), k ≤ (nexts09 i pc).length ∧ t = .int .i64 k ∧ Hid (DpM w x ⟨.slice A3 x.caps.length c3, .slice A4 x.consts.length c4, .slice (some ⟨B5, o5, none⟩) x.code.length c5, .slice A6 x.lines.length c6, .slice A7 x.handlers.length c7⟩ x.code.length tb kb lb cap L' bad' p' wr) ∧ Hid (IntsV wr wr.heap.size (.slice Av (nexts09 i pc).length cv) (nexts09 i pc))) (fun t _ => (nexts09 i pc).length - (intOf t).toNat)
            case atStart => exact ⟨0, _, _, Nat.zero_le _, rfl, HM6, HLs⟩
            case round =>
             obtain ⟨k, L', bad', hk, rfl, HMq, HLs⟩ := hrel
             obtain ⟨wq, rfl⟩ : ∃ wq : World, wq = wr := ⟨_, rfl⟩
             clear HM6
             by_cases hk2 : k < (nexts09 i pc).length
             ·obtain ⟨bv, ov, ev, _, hpv⟩ := HLs.out.cells hk2
              subst ev
              obtain ⟨u, hu⟩ := rget hk2
              have v0 := hpv k u hu
              obtain ⟨u0, u1⟩ := next_in HC.out HI.out u (List.mem_of_getElem? hu)
              obtain ⟨un, rfl⟩ : ∃ m : Nat, u = (m : Int) := ⟨u.toNat, by omega⟩
              clear hpv hu u0
              go_wp2_with (go_at_call 111; refine (tell09_any wq tb lb w.heap.size x.code.length cap L' bad' un _ HMq.out.tl (by omega) (by omega)).mono ?_; rintro e w8 ⟨L8, bad8, rfl, h1, h2⟩; have HM8 := Lib.hid (HMq.out.tell h1 h2); have HL8 := Lib.hid (ints_only2 HLs.out h2 HFr.out); clear h1 h2)
              go_roundw
              case rel => exact ⟨k + 1, L8, bad8, by omega, by go_num, HM8, HL8⟩
              case measure => simp [intOf]; omega
             ·have b1 : wq.cell? ⟨tb, 1, none⟩ = some (.bool bad') := HMq.out.tl.tb_.cell 1
              have bl := HMq.out.tl.tb_.lt
              cases bad'
              rotate_left
              ·go_wp2_with fail
               refine bodyPost_ret (results_tmp2 rfl _ _ _) rfl ?_
               exact ⟨[], _, _, rfl, IntsV.nil _ _, HMq.out.low⟩
              ·skip
               go_upto_region 38 with fail
               go_loopw [8, 18] (fun t j wr => ∃ (q k : Nat), q ≤ x.code.length ∧ t = .int .i64 q ∧ k ≤ (nexts09 i pc).length ∧ j = .int .i64 k ∧ Hid (wr = wq)) (fun _ j _ => (nexts09 i pc).length - (intOf j).toNat)
               case atStart => exact ⟨pc, 0, hpc, rfl, Nat.zero_le _, rfl, Lib.hid rfl⟩
               case round =>
                obtain ⟨q, k, hq, rfl, hk, rfl, hw'⟩ := hrel
                have hw2 := hw'.out
                subst hw2
                by_cases hk2 : k < (nexts09 i pc).length
                ·obtain ⟨bv, ov, ev, _, hpv⟩ := HLs.out.cells hk2
                 subst ev
                 obtain ⟨u, hu⟩ := rget hk2
                 have v0 := hpv k u hu
                 obtain ⟨u0, u1⟩ := next_in HC.out HI.out u (List.mem_of_getElem? hu)
                 obtain ⟨un, rfl⟩ : ∃ m : Nat, u = (m : Int) := ⟨u.toNat, by omega⟩
                 clear hpv hu u0
                 go_wp2_with fail
                 go_roundw
                 case rel => exact ⟨min q un, k + 1, by omega, by (try simp); omega, by omega, by go_num, (by first | exact Lib.hid rfl | exact Lib.hid trivial)⟩
                 case measure => simp [intOf]; omega
                ·go_wp2_with fail
                 go_roundg ((x.code.length - card x.code.length p') * (x.code.length + 1) + (x.code.length - q))
                 case measure => rw [HCnt.out]; exact cnt_lt2 HCd.out hpc
                 case rel => exact ⟨q, L', false, p', hq, rfl, Lib.hid rfl, HMq⟩
    ·have tl := HM.out.tl.tb_.lt
     have HOw : Hid (IntsV wp wp.heap.size (.slice (some ⟨lb, 0, none⟩) x.code.length cap) L) := Lib.hid (by
      have := OwnInts.ints HM.out.tl.own (by rw [HM.out.tl.len]; unfold lim; omega)
      exact this)
     go_wp2_with fail
     refine bodyPost_ret (results_tmp2 rfl _ _ _) rfl ?_
     exact ⟨L, _, _, rfl, HOw.out, HM.out.low⟩
end Go.Proofs.YtkmfdiboekoioaaGreat
