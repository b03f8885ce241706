/- verify.depths: the main loop. Conditions: a function whose numbers are right. -/
import Derived.Test.YtkmfdiboekoioaaGreatCDepC
set_option linter.unusedSimpArgs false
set_option linter.unusedVariables false
namespace Go.Proofs.YtkmfdiboekoioaaGreat
open Go.RowKit
noncomputable def dmain : Code := ((Tryz.f85.body.map loopsD).getD []).getD 1 .skip

set_option maxRecDepth 100000 in
set_option maxHeartbeats 40000000 in
theorem dmain_any (w : World) (B c rm b off cp : Nat) (p : List FnP) (mk : FMap) (x : FnP) (A3 A4 A6 A7 : Option Addr) (c3 c4 b5 o5 c5 c6 c7 bq gt ct : Nat) (qv6 : Value) (w6 : World) (h0 : 0 < x.code.length) (hl : x.code.length ≤ 16384)
    (hnum : ∀ (pc : Nat) i, x.code[pc]? = some i → numB p.length x pc i = true ∧ lastB x pc i = false) (hh : ∀ h ∈ x.handlers, handlerB x.code.length h = true) (hL6 : LMem w B c rm (.slice (some ⟨b, off, none⟩) p.length cp) p mk ⟨.slice A3 x.caps.length c3, .slice A4 x.consts.length c4, .slice (some ⟨b5, o5, none⟩) x.code.length c5, .slice A6 x.lines.length c6, .slice A7 x.handlers.length c7⟩ x (w.heap.size + 1) w.heap.size bq gt ct qv6 (toldD x) [0] w6)
    (u1 u2 u3 u5 u8 u9 u10 u11 u12 u13 u14 u15 u16 u17 u18 u19 u20 u21 u22 u23 u24 u25 u26 u27 u28 u29 u30 u31 u32 u33 u34 u35 u36 u37 u38 u39 u40 u41 u42 u43 u44 u45 u46 u47 u48 u49 u50 u51 u52 u53 u54 u55 u56 u57 u58 u59 u60 u61 u62 u63 u64 u65 u66 u67 u68 u69 u70 u71 u72 u73 u74 u75 u76 u77 u78 u79 u80 u81 u82 u83 u84 u85 u86 u87 u88 u89 u90 u91 u92 u93 u94 u95 u96 u97 u98 u99 u100 u101 u102 u103 u104 u105 u106 u107 u108 u109 u110 u111 u112 u113 u114 u115 u116 u117 u118 u119 u120 u121 u122 u123 u124 u125 u126 u127 u128 u129 u130 u131 u132 u133 u134 u135 u136 u137 u138 u139 u140 u141 u142 u143 u144 u145 u146 u147 u148 u149 u150 u151 u152 u153 u154 u155 u156 u157 u158 u159 u160 : Value) (Q : Exit → Act → World → Prop)
    (hexit : ∀ (x5 x8 x9 x10 x11 x12 x13 x15 x35 x36 x37 x38 x39 x40 x41 x42 x43 x44 x45 x46 x47 x48 x49 x50 x51 x52 x53 x54 x55 x56 x57 x58 x59 x60 x61 x62 x63 x64 x65 x66 x67 x68 x69 x70 x71 x72 x73 x74 x75 x76 x77 x78 x79 x80 x81 x82 x83 x84 x85 x86 x87 x88 x89 x90 x91 x92 x93 x94 x95 x96 x97 x98 x99 x100 x101 x102 x103 x104 x105 x106 x107 x108 x109 x110 x111 x112 x113 x114 x115 x116 x117 x118 x119 x120 x121 x122 x123 x124 x125 x126 x127 x128 x129 x130 x131 x132 x133 x134 x135 x136 x137 x138 x139 x140 x141 x142 x143 x144 x145 x146 x147 x148 x149 x150 x151 x152 x153 x154 x155 x156 x157 x158 x159 : Value) (w' : World) (told : List Int) (qv : Value), (LMem w B c rm (.slice (some ⟨b, off, none⟩) p.length cp) p mk ⟨.slice A3 x.caps.length c3, .slice A4 x.consts.length c4, .slice (some ⟨b5, o5, none⟩) x.code.length c5, .slice A6 x.lines.length c6, .slice A7 x.handlers.length c7⟩ x (w.heap.size + 1) w.heap.size bq gt ct qv told [] w' ∧ DInv x.code.length ⟨told, [], true⟩ ∧ depthsP x = (some told, -1)) → Q (.exit 2) ⟨#[.pointer (some ⟨c, 0, none⟩), u1, u2, u3, .pointer (some ⟨w.heap.size, 0, none⟩), x5, .pointer (some ⟨w.heap.size + 1, 0, none⟩), .pointer (some ⟨bq, 0, none⟩), x8, x9, x10, x11, x12, x13, u14, x15, u16, u17, u18, u19, u20, u21, u22, u23, u24, u25, u26, u27, u28, u29, u30, u31, u32, u33, u34, x35, x36, x37, x38, x39, x40, x41, x42, x43, x44, x45, x46, x47, x48, x49, x50, x51, x52, x53, x54, x55, x56, x57, x58, x59, x60, x61, x62, x63, x64, x65, x66, x67, x68, x69, x70, x71, x72, x73, x74, x75, x76, x77, x78, x79, x80, x81, x82, x83, x84, x85, x86, x87, x88, x89, x90, x91, x92, x93, x94, x95, x96, x97, x98, x99, x100, x101, x102, x103, x104, x105, x106, x107, x108, x109, x110, x111, x112, x113, x114, x115, x116, x117, x118, x119, x120, x121, x122, x123, x124, x125, x126, x127, x128, x129, x130, x131, x132, x133, x134, x135, x136, x137, x138, x139, x140, x141, x142, x143, x144, x145, x146, x147, x148, x149, x150, x151, x152, x153, x154, x155, x156, x157, x158, x159, u160], []⟩ w')
    (hret : ∀ (a : Act) (W : World), bodyPost Tryz.prog Tryz.f85 (DepIs x w) .ret a W → Q .ret a W) :
    Code.wp Tryz.prog (Code.loop dmain) Q ⟨#[.pointer (some ⟨c, 0, none⟩), u1, u2, u3, .pointer (some ⟨w.heap.size, 0, none⟩), u5, .pointer (some ⟨w.heap.size + 1, 0, none⟩), .pointer (some ⟨bq, 0, none⟩), u8, u9, u10, u11, u12, u13, u14, u15, u16, u17, u18, u19, u20, u21, u22, u23, u24, u25, u26, u27, u28, u29, u30, u31, u32, u33, u34, u35, u36, u37, u38, u39, u40, u41, u42, u43, u44, u45, u46, u47, u48, u49, u50, u51, u52, u53, u54, u55, u56, u57, u58, u59, u60, u61, u62, u63, u64, u65, u66, u67, u68, u69, u70, u71, u72, u73, u74, u75, u76, u77, u78, u79, u80, u81, u82, u83, u84, u85, u86, u87, u88, u89, u90, u91, u92, u93, u94, u95, u96, u97, u98, u99, u100, u101, u102, u103, u104, u105, u106, u107, u108, u109, u110, u111, u112, u113, u114, u115, u116, u117, u118, u119, u120, u121, u122, u123, u124, u125, u126, u127, u128, u129, u130, u131, u132, u133, u134, u135, u136, u137, u138, u139, u140, u141, u142, u143, u144, u145, u146, u147, u148, u149, u150, u151, u152, u153, u154, u155, u156, u157, u158, u159, u160], []⟩ w6 := by
  have HNum := Lib.hid hnum; have HHd := Lib.hid hh; have HL6 := Lib.hid hL6
  have HRet := Lib.hid hret; have HEx := Lib.hid hexit
  have hlen := hL6.fb.fn.ints
  clear hnum hh hL6 hret hexit
  conv => arg 2; arg 1; whnf
  dsimp only
  go_loopg [8] (x.code.length) (fun n _ wr => ∃ told todo qv, n = negs told + todo.length ∧ Hid (LMem w B c rm (.slice (some ⟨b, off, none⟩) p.length cp) p mk ⟨.slice A3 x.caps.length c3, .slice A4 x.consts.length c4, .slice (some ⟨b5, o5, none⟩) x.code.length c5, .slice A6 x.lines.length c6, .slice A7 x.handlers.length c7⟩ x (w.heap.size + 1) w.heap.size bq gt ct qv told todo wr) ∧ Hid (DInv x.code.length ⟨told, todo, true⟩) ∧ Hid (depthsP x = runD x (n + 2) told todo))
  case atStart =>
    have hn := negs_first h0
    exact ⟨_, _, _, hn.symm, HL6, Lib.hid (toldD_inv h0), Lib.hid rfl⟩
  case round =>
    rename_i KR hKR
    obtain ⟨told, todo, qv, hgk, HL, HI, HE⟩ := hrel
    have htl : told.length = x.code.length := HI.out.len
    have m0 : wr.cell? ⟨w.heap.size, 0, none⟩ = some (.slice (some ⟨gt, 0, none⟩) x.code.length ct) := by rw [← htl]; exact HL.out.tm.tb.cell 0
    have m1 : wr.cell? ⟨bq, 0, none⟩ = some qv := HL.out.tm.qb.cell 0
    have l0 := HL.out.tm.tb.lt
    have l1 := HL.out.tm.qb.lt
    have z0 := HL.out.tm.tb.frozen 0
    have z1 := HL.out.tm.qb.frozen 0
    rcases List.eq_nil_or_concat todo with rfl | ⟨r, a, rfl⟩
    · obtain ⟨Aq, cq, rfl⟩ := ow_form HL.out.tm.qr
      go_wp2_with fail
      exact HEx.out _ _ _ _ _ _ _ _ _ _ _ _ _ _ _ _ _ _ _ _ _ _ _ _ _ _ _ _ _ _ _ _ _ _ _ _ _ _ _ _ _ _ _ _ _ _ _ _ _ _ _ _ _ _ _ _ _ _ _ _ _ _ _ _ _ _ _ _ _ _ _ _ _ _ _ _ _ _ _ _ _ _ _ _ _ _ _ _ _ _ _ _ _ _ _ _ _ _ _ _ _ _ _ _ _ _ _ _ _ _ _ _ _ _ _ _ _ _ _ _ _ _ _ _ _ _ _ _ _ _ _ _ _ _ told _ ⟨HL.out, HI.out, by rw [HE.out]; rfl⟩
    · rw [List.concat_eq_append] at HL HI HE hgk
      obtain ⟨Aq, cq, eq⟩ := ow_form HL.out.tm.qr
      rw [List.length_append, List.length_singleton] at eq
      subst eq
      obtain ⟨_, _, gq, rfl, hgc, hgm, m2, l2⟩ := ow_pop (g := 0) HL.out.tm.qr
      obtain ⟨ha0, ha1, ha2⟩ := HI.out.rng a (by simp)
      obtain ⟨k, rfl⟩ : ∃ k : Nat, a = (k : Int) := ⟨a.toNat, by omega⟩
      have hkl : k < x.code.length := by omega
      obtain ⟨i, hi⟩ := getL hkl
      have HI' := Lib.hid hi
      have hrl : r.length + 1 ≤ x.code.length := by
        have h1 := falling_lt (n := x.code.length) HI.out.fall (fun x hx => ⟨(HI.out.rng x hx).1, (HI.out.rng x hx).2.1⟩)
        simpa using h1
      obtain ⟨w1, hw1⟩ : ∃ w1, w1 = wr.setCell ⟨bq, 0, none⟩ (.slice (some ⟨gq, 0, none⟩) r.length cq) := ⟨_, rfl⟩
      have HL1 : Hid (LMem w B c rm (.slice (some ⟨b, off, none⟩) p.length cp) p mk ⟨.slice A3 x.caps.length c3, .slice A4 x.consts.length c4, .slice (some ⟨b5, o5, none⟩) x.code.length c5, .slice A6 x.lines.length c6, .slice A7 x.handlers.length c7⟩ x (w.heap.size + 1) w.heap.size bq gt ct (.slice (some ⟨gq, 0, none⟩) r.length cq) told r w1) := Lib.hid (by rw [hw1]; exact HL.out.pop)
      clear hi
      go_upto_region 12 with fail
      rw [← hw1]
      clear hw1 m0 m1 m2 z0 z1
      obtain ⟨b5', o5', e5, hb5, j0, j1, hop⟩ := InsesV.at_ HL1.out.fb.fn.code HI'.out
      injection e5 with e5
      injection e5 with e5 e5'
      subst e5 e5'
      obtain ⟨o, ho⟩ : ∃ o : Nat, i.op = (o : Int) := ⟨i.op.toNat, by omega⟩
      have hnb := (HNum.out k i HI'.out).1
      have ho31 : 1 ≤ o ∧ o < 31 := by
        unfold numB at hnb
        simp only [Bool.and_eq_true] at hnb
        have := (isB_iff _ _ _).1 hnb.1
        rw [ho] at this; omega
      have HO := Lib.hid ho
      rw [ho] at j0
      obtain ⟨f0, f1, f2, f3, f4, f5, f6, f7⟩ := HL1.out.fb.cells
      simp only at f3 f4 f5 f6 f7
      have hfl := HL1.out.fb.box.lt
      obtain ⟨w2, hw2⟩ : ∃ w2, w2 = w1.alloc (.cells #[.int .u8 (o : Int), .int .i64 i.a] 117) := ⟨_, rfl⟩
      have hb2 : Below w1.heap.size w1 w2 := by rw [hw2]; exact (Below.refl _ _).alloc (Nat.le_refl _) _
      have HL2 := Lib.hid (HL1.out.below hb2)
      have HIB : Hid (Blk w2 w1.heap.size 117 #[.int .u8 (o : Int), .int .i64 i.a]) := Lib.hid (by rw [hw2]; exact Blk.new _ _ _)
      clear f0 f1 f2 f3 f4 f6 ho hnb hb2
      go_upto_region 13 with fail
      rw [← hw2]
      clear hw2 j0 j1
      obtain ⟨q0, q1, q2, q3⟩ := HL2.out.kc.row o ho31.2
      have i0' := HIB.out.cell 0
      have i1' := HIB.out.cell 1
      have lc := HL2.out.kc.ck.lt
      have li := HIB.out.lt
      have ho0 := ho31.2
      clear f5 f7
      go_region
      have hmany := numB_many (HNum.out k i HI'.out).1
      have hrow := row_leaves o
      rw [HO.out] at hmany
      have hdp := HI.out.deep _ (show told.getD k 0 ∈ told by
        rw [List.getD_eq_getElem?_getD, List.getElem?_eq_getElem (by omega)]; simp)
      obtain ⟨tk, htk⟩ : ∃ tk, tk = told.getD k 0 := ⟨_, rfl⟩
      obtain ⟨T, hT⟩ : ∃ T, T = (rowOf (o : Int)).takes := ⟨_, rfl⟩
      obtain ⟨L, hL⟩ : ∃ L, L = (rowOf (o : Int)).leaves := ⟨_, rfl⟩
      obtain ⟨M, hM⟩ : ∃ M, M = (rowOf (o : Int)).times := ⟨_, rfl⟩
      obtain ⟨A, hA⟩ : ∃ A, A = (rowOf (o : Int)).a := ⟨_, rfl⟩
      rw [← hT, ← hL, ← hM, ← hA]
      rw [← hT, ← hL, ← hM] at hrow
      rw [← hM] at hmany
      rw [← htk] at hdp
      obtain ⟨w3, hw3⟩ : ∃ w3, w3 = (w2.alloc (.cells #[.int .u8 A, .int .i64 T, .int .i64 L, .int .i64 M] 190)).drew := ⟨_, rfl⟩
      rw [← hw3]
      have hb3 : Below w2.heap.size w2 w3 := by rw [hw3]; exact ((Below.refl _ _).alloc (Nat.le_refl _) _).drew
      have HL3 := Lib.hid (HL2.out.below hb3)
      have HIB3 := Lib.hid (HIB.out.below hb3 li)
      have HRB3 : Hid (Blk w3 w2.heap.size 190 #[.int .u8 A, .int .i64 T, .int .i64 L, .int .i64 M]) := Lib.hid (by rw [hw3]; exact (Blk.new _ _ _).drew)
      have HD : Hid (deepD told (k : Int) i = tk - T - M * i.a) := Lib.hid (by unfold deepD; rw [HO.out, ← hT, ← hM, htk, Int.toNat_natCast])
      have HLe : Hid ((rowOf i.op).leaves = L) := Lib.hid (by rw [HO.out, hL])
      have HTK := Lib.hid htk
      have m0 : w3.cell? ⟨w.heap.size, 0, none⟩ = some (.slice (some ⟨gt, 0, none⟩) x.code.length ct) := by rw [← htl]; exact HL3.out.tm.tb.cell 0
      have mt : w3.cell? ⟨gt, k, none⟩ = some (.int .i64 tk) := by rw [htk]; exact HL3.out.tm.at_ (by omega)
      have r1 := HRB3.out.cell 1
      have r2 := HRB3.out.cell 2
      have r3 := HRB3.out.cell 3
      have i0' := HIB3.out.cell 0
      have i1' := HIB3.out.cell 1
      have lr3 := HRB3.out.lt
      have li3 := HIB3.out.lt
      have lt3 := HL3.out.tm.tb.lt
      clear hw3 hb3 q0 q1 q2 q3 hT hL hM hA htk
      obtain ⟨d, hd⟩ : ∃ d, d = tk - T - M * i.a := ⟨_, rfl⟩
      rw [← hd] at HD
      have hdb : -2000 ≤ d ∧ d ≤ 300 := by omega
      go_upto_region 14 with fail
      go_quiet (fail)
      go_upto_region 15 with fail
      rw [← hd]
      obtain ⟨w4, hw4⟩ : ∃ w4, w4 = w3.drewN nq := ⟨_, rfl⟩
      rw [← hw4]
      have hb4 : Below w3.heap.size w3 w4 := by rw [hw4]; exact below_drewN (Below.refl _ _) nq
      have HL4 := Lib.hid (HL3.out.below hb4)
      have HIB4 := Lib.hid (HIB3.out.below hb4 li3)
      have HRB4 := Lib.hid (HRB3.out.below hb4 lr3)
      have HGK := Lib.hid hgk
      have hd0 : decide (d < 0) = decide (d < 0) := rfl
      clear hd hw4 hb4 hmany m0 mt r1 r2 r3 i0' i1' li lc l0 l1 hgk hd0
      obtain ⟨lt4, li4, lr4⟩ : w.heap.size < w4.heap.size ∧ w1.heap.size < w4.heap.size ∧ w2.heap.size < w4.heap.size := ⟨HL4.out.tm.tb.lt, HIB4.out.lt, HRB4.out.lt⟩
      have m0 : w4.cell? ⟨w.heap.size, 0, none⟩ = some (.slice (some ⟨gt, 0, none⟩) x.code.length ct) := by rw [← htl]; exact HL4.out.tm.tb.cell 0
      have z0 := HL4.out.tm.tb.frozen 0
      have mt : w4.cell? ⟨gt, k, none⟩ = some (.int .i64 tk) := by rw [HTK.out]; exact HL4.out.tm.at_ (by omega)
      have r2 := HRB4.out.cell 2
      have i0' := HIB4.out.cell 0
      have i1' := HIB4.out.cell 1
      have HS : Hid (stepD x k i told r = if d < 0 ∨ 256 < d + L ∨ (o : Int) = 21 ∧ tk ≠ 0 then none else (handD k d x.handlers ⟨told, r, true⟩).map (endD i.op i.a k (d + L))) := Lib.hid (by unfold stepD; rw [HD.out, HLe.out, HTK.out, HO.out, Int.toNat_natCast])
      by_cases hbad : d < 0 ∨ 256 < d + L ∨ (o : Int) = 21 ∧ tk ≠ 0
      · have HN : Hid (stepD x k i told r = none) := Lib.hid (by rw [HS.out, if_pos hbad])
        have HF : Hid (Blk w4 w.heap.size 34 #[.slice (some ⟨gt, 0, none⟩) told.length ct]) := Lib.hid HL4.out.tm.tb
        rcases hbad with h1 | h1 | ⟨h1, h2⟩
        · go_wp2_with fail
          refine HRet.out _ _ ?_
          exact dep_bad (w1 := w) HI'.out HE.out HN.out (Nat.le_refl _) HF.out HL4.out.low rfl rfl rfl
        · go_wp2_with fail
          all_goals (refine HRet.out _ _ ?_; exact dep_bad (w1 := w) HI'.out HE.out HN.out (Nat.le_refl _) HF.out HL4.out.low rfl rfl rfl)
        · obtain rfl : o = 21 := by omega
          go_wp2_with fail
          all_goals (refine HRet.out _ _ ?_; exact dep_bad (w1 := w) HI'.out HE.out HN.out (Nat.le_refl _) HF.out HL4.out.low rfl rfl rfl)
      · have hd0 : 0 ≤ d := Int.not_lt.1 fun h => hbad (.inl h)
        have hdL : d + L ≤ 256 := Int.not_lt.1 fun h => hbad (.inr (.inl h))
        have HSg : Hid (stepD x k i told r = (handD k d x.handlers ⟨told, r, true⟩).map (endD i.op i.a k (d + L))) := Lib.hid (by rw [HS.out, if_neg hbad])
        have h21 : (o : Int) = 21 ∧ tk = 0 ∨ ¬ (o : Int) = 21 := by
          by_cases h : (o : Int) = 21
          · exact .inl ⟨h, Classical.byContradiction fun h2 => hbad (.inr (.inr ⟨h, h2⟩))⟩
          · exact .inr h
        have HI5 : Hid (DInv x.code.length ⟨told, r, true⟩) := Lib.hid (HI.out.pop)
        have HRn : Hid (Rnd p.length x k gk told r i o d L) := Lib.hid ⟨HI'.out, HE.out, HGK.out, HO.out, HSg.out, hd0, hdL, hrow.1, hl, hkl, (HNum.out k i HI'.out).1, (HNum.out k i HI'.out).2, HHd.out⟩
        have hLd := hrow
        clear hbad HS hrow
        rcases h21 with ⟨h21, htk0⟩ | h21
        · skip
          obtain ⟨w5, hw5⟩ : ∃ w5, w5 = w4.alloc (.cells #[.bool true] 4) := ⟨_, rfl⟩
          have HR5 : Hid (RMem w B c rm (.slice (some ⟨b, off, none⟩) p.length cp) p mk ⟨.slice A3 x.caps.length c3, .slice A4 x.consts.length c4, .slice (some ⟨b5, o5, none⟩) x.code.length c5, .slice A6 x.lines.length c6, .slice A7 x.handlers.length c7⟩ x (w.heap.size + 1) w.heap.size bq w4.heap.size gt ct w1.heap.size w2.heap.size #[.int .u8 (o : Int), .int .i64 i.a] #[.int .u8 A, .int .i64 T, .int .i64 L, .int .i64 M] (.slice (some ⟨gq, 0, none⟩) r.length cq) ⟨told, r, true⟩ w5) := Lib.hid (by rw [hw5]; exact HL4.out.start HIB4.out HRB4.out)
          go_upto_region 19 with fail
          rename_i K1 hK1 K2 hK2
          rw [← hw5]
          clear hw5 m0 z0 mt r2 i0' i1'
          obtain ⟨f0, f1, f2, f3, f4, f5, f6, f7⟩ := HR5.out.fb.cells
          simp only at f3 f4 f5 f6 f7
          have hfl5 := HR5.out.fb.box.lt
          obtain ⟨bo, hbo⟩ : ∃ bo, bo = w4.heap.size := ⟨_, rfl⟩
          obtain ⟨bi, hbi⟩ : ∃ bi, bi = w1.heap.size := ⟨_, rfl⟩
          obtain ⟨br, hbr⟩ : ∃ br, br = w2.heap.size := ⟨_, rfl⟩
          rw [← hbo, ← hbi, ← hbr] at HR5
          rw [← hbo, ← hbi, ← hbr]
          clear hbo hbi hbr f0 f1 f2 f3 f4 f5 f6 lt4 li4 lr4 hfl
          go_wp2_with fail
          refine dloop_any w B c rm (.slice (some ⟨b, off, none⟩) p.length cp) p mk ⟨.slice A3 x.caps.length c3, .slice A4 x.consts.length c4, .slice (some ⟨b5, o5, none⟩) x.code.length c5, .slice A6 x.lines.length c6, .slice A7 x.handlers.length c7⟩ x (w.heap.size + 1) bq bo gt ct bi br k gk told r i o d A T L M _ w5 A7 c7 HRn.out HR5.out HI5.out rfl _ _ _ _ _ _ _ _ _ _ _ _ _ _ _ _ _ _ _ _ _ _ _ _ _ _ _ _ _ _ _ _ _ _ _ _ _ _ _ _ _ _ _ _ _ _ _ _ _ _ _ _ _ _ _ _ _ _ _ _ _ _ _ _ _ _ _ _ _ _ _ _ _ _ _ _ _ _ _ _ _ _ _ _ _ _ _ _ _ _ _ _ _ _ _ _ _ _ _ _ _ _ _ _ _ _ _ _ _ _ _ _ _ _ _ _ _ _ _ _ _ _ _ _ _ _ _ _ _ _ _ _ _ _ _ _ _ _ _ _ _ _ _ _ _ _ _ _ _ _ _ _ _ _ _ ?_ (fun a W h => HRet.out a W h)
          intro x5 x15 x100 x101 x102 x103 x104 x105 x106 x107 x108 x109 x110 x111 x112 x113 x114 x115 x116 x117 x118 x119 x120 x121 x122 w6' s qv2 ⟨hm1, hm2, hm3, hm4⟩
          have HM1 := Lib.hid hm1; have HM2 := Lib.hid hm2; have HM3 := Lib.hid hm3; have HM4 := Lib.hid hm4
          clear hm1 hm2 hm3 hm4 f7 HR5
          dsimp only [Exit.inBlock]
          rw [if_pos rfl]
          dsimp only [Exit.then]
          refine hK1 _ _ ?_
          refine dafter_any w B c rm (.slice (some ⟨b, off, none⟩) p.length cp) p mk ⟨.slice A3 x.caps.length c3, .slice A4 x.consts.length c4, .slice (some ⟨b5, o5, none⟩) x.code.length c5, .slice A6 x.lines.length c6, .slice A7 x.handlers.length c7⟩ x (w.heap.size + 1) bq bo gt ct bi br k gk told r i o d A T L M qv2 s w6' HRn.out HM1.out HM3.out HM2.out HM4.out _ _ _ _ _ _ _ _ _ _ _ _ _ _ _ _ _ _ _ _ _ _ _ _ _ _ _ _ _ _ _ _ _ _ _ _ _ _ _ _ _ _ _ _ _ _ _ _ _ _ _ _ _ _ _ _ _ _ _ _ _ _ _ _ _ _ _ _ _ _ _ _ _ _ _ _ _ _ _ _ _ _ _ _ _ _ _ _ _ _ _ _ _ _ _ _ _ _ _ _ _ _ _ _ _ _ _ _ _ _ _ _ _ _ _ _ _ _ _ _ _ _ _ _ _ _ _ _ _ _ _ _ _ _ _ _ _ _ _ _ _ _ _ _ _ _ _ _ _ _ _ _ _ _ _ ?_ (fun a W h => HRet.out a W h)
          intro x11 x123 x124 x125 x126 x127 x128 x129 x130 x131 x132 x133 x134 x135 x136 x137 x138 x139 x140 x141 x142 x143 x144 x145 x146 x147 x148 x149 x150 x151 x152 x153 x154 x155 x156 x157 x158 x159 w7' ⟨told', todo', qv', n1, n2, n3, n4⟩
          (try dsimp only [Exit.inBlock, Exit.then])
          refine hKR _ _ ?_
          go_roundg (negs told' + todo'.length)
          case measure => exact n1
          case rel => exact ⟨told', todo', qv', rfl, Lib.hid n2, Lib.hid n3, Lib.hid n4⟩
        · have d21 : decide ((o : Int) = 21) = false := by simp [h21]
          have b21 : ((o : Int) == 21) = false := by simp [h21]
          have e0 : decide (d < 0) = false := by simp; omega
          have eL : decide (256 < d + L) = false := by simp; omega
          obtain ⟨w5, hw5⟩ : ∃ w5, w5 = w4.alloc (.cells #[.bool true] 4) := ⟨_, rfl⟩
          have HR5 : Hid (RMem w B c rm (.slice (some ⟨b, off, none⟩) p.length cp) p mk ⟨.slice A3 x.caps.length c3, .slice A4 x.consts.length c4, .slice (some ⟨b5, o5, none⟩) x.code.length c5, .slice A6 x.lines.length c6, .slice A7 x.handlers.length c7⟩ x (w.heap.size + 1) w.heap.size bq w4.heap.size gt ct w1.heap.size w2.heap.size #[.int .u8 (o : Int), .int .i64 i.a] #[.int .u8 A, .int .i64 T, .int .i64 L, .int .i64 M] (.slice (some ⟨gq, 0, none⟩) r.length cq) ⟨told, r, true⟩ w5) := Lib.hid (by rw [hw5]; exact HL4.out.start HIB4.out HRB4.out)
          go_upto_region 19 with fail
          rename_i K1 hK1 K2 hK2
          rw [← hw5]
          clear hw5 m0 z0 mt r2 i0' i1'
          obtain ⟨f0, f1, f2, f3, f4, f5, f6, f7⟩ := HR5.out.fb.cells
          simp only at f3 f4 f5 f6 f7
          have hfl5 := HR5.out.fb.box.lt
          obtain ⟨bo, hbo⟩ : ∃ bo, bo = w4.heap.size := ⟨_, rfl⟩
          obtain ⟨bi, hbi⟩ : ∃ bi, bi = w1.heap.size := ⟨_, rfl⟩
          obtain ⟨br, hbr⟩ : ∃ br, br = w2.heap.size := ⟨_, rfl⟩
          rw [← hbo, ← hbi, ← hbr] at HR5
          rw [← hbo, ← hbi, ← hbr]
          clear hbo hbi hbr f0 f1 f2 f3 f4 f5 f6 lt4 li4 lr4 hfl
          go_wp2_with fail
          refine dloop_any w B c rm (.slice (some ⟨b, off, none⟩) p.length cp) p mk ⟨.slice A3 x.caps.length c3, .slice A4 x.consts.length c4, .slice (some ⟨b5, o5, none⟩) x.code.length c5, .slice A6 x.lines.length c6, .slice A7 x.handlers.length c7⟩ x (w.heap.size + 1) bq bo gt ct bi br k gk told r i o d A T L M _ w5 A7 c7 HRn.out HR5.out HI5.out rfl _ _ _ _ _ _ _ _ _ _ _ _ _ _ _ _ _ _ _ _ _ _ _ _ _ _ _ _ _ _ _ _ _ _ _ _ _ _ _ _ _ _ _ _ _ _ _ _ _ _ _ _ _ _ _ _ _ _ _ _ _ _ _ _ _ _ _ _ _ _ _ _ _ _ _ _ _ _ _ _ _ _ _ _ _ _ _ _ _ _ _ _ _ _ _ _ _ _ _ _ _ _ _ _ _ _ _ _ _ _ _ _ _ _ _ _ _ _ _ _ _ _ _ _ _ _ _ _ _ _ _ _ _ _ _ _ _ _ _ _ _ _ _ _ _ _ _ _ _ _ _ _ _ _ _ ?_ (fun a W h => HRet.out a W h)
          intro x5 x15 x100 x101 x102 x103 x104 x105 x106 x107 x108 x109 x110 x111 x112 x113 x114 x115 x116 x117 x118 x119 x120 x121 x122 w6' s qv2 ⟨hm1, hm2, hm3, hm4⟩
          have HM1 := Lib.hid hm1; have HM2 := Lib.hid hm2; have HM3 := Lib.hid hm3; have HM4 := Lib.hid hm4
          clear hm1 hm2 hm3 hm4 f7 HR5
          dsimp only [Exit.inBlock]
          rw [if_pos rfl]
          dsimp only [Exit.then]
          refine hK1 _ _ ?_
          refine dafter_any w B c rm (.slice (some ⟨b, off, none⟩) p.length cp) p mk ⟨.slice A3 x.caps.length c3, .slice A4 x.consts.length c4, .slice (some ⟨b5, o5, none⟩) x.code.length c5, .slice A6 x.lines.length c6, .slice A7 x.handlers.length c7⟩ x (w.heap.size + 1) bq bo gt ct bi br k gk told r i o d A T L M qv2 s w6' HRn.out HM1.out HM3.out HM2.out HM4.out _ _ _ _ _ _ _ _ _ _ _ _ _ _ _ _ _ _ _ _ _ _ _ _ _ _ _ _ _ _ _ _ _ _ _ _ _ _ _ _ _ _ _ _ _ _ _ _ _ _ _ _ _ _ _ _ _ _ _ _ _ _ _ _ _ _ _ _ _ _ _ _ _ _ _ _ _ _ _ _ _ _ _ _ _ _ _ _ _ _ _ _ _ _ _ _ _ _ _ _ _ _ _ _ _ _ _ _ _ _ _ _ _ _ _ _ _ _ _ _ _ _ _ _ _ _ _ _ _ _ _ _ _ _ _ _ _ _ _ _ _ _ _ _ _ _ _ _ _ _ _ _ _ _ _ ?_ (fun a W h => HRet.out a W h)
          intro x11 x123 x124 x125 x126 x127 x128 x129 x130 x131 x132 x133 x134 x135 x136 x137 x138 x139 x140 x141 x142 x143 x144 x145 x146 x147 x148 x149 x150 x151 x152 x153 x154 x155 x156 x157 x158 x159 w7' ⟨told', todo', qv', n1, n2, n3, n4⟩
          (try dsimp only [Exit.inBlock, Exit.then])
          refine hKR _ _ ?_
          go_roundg (negs told' + todo'.length)
          case measure => exact n1
          case rel => exact ⟨told', todo', qv', rfl, Lib.hid n2, Lib.hid n3, Lib.hid n4⟩
end Go.Proofs.YtkmfdiboekoioaaGreat
