/- verify.depths: what follows the loop over handlers. Conditions: a round. -/
import Derived.Test.YtkmfdiboekoioaaGreatCDepA
set_option linter.unusedSimpArgs false
set_option linter.unusedVariables false
namespace Go.Proofs.YtkmfdiboekoioaaGreat
open Go.RowKit
def blockOf (n : Nat) : Code → Option Code
  | .block m c => if m = n then some c else blockOf n c
  | .seq a b => (blockOf n a).orElse (fun _ => blockOf n b)
  | .loop c => blockOf n c
  | .scope c => blockOf n c
  | .cond _ a b => (blockOf n a).orElse (fun _ => blockOf n b)
  | _ => none
def sndN : Nat → Code → Code
  | 0, c => c
  | n + 1, .seq _ b => sndN n b
  | _, c => c
noncomputable def dafter : Code := sndN 9 (((Tryz.f85.body).bind (blockOf 3)).getD .skip)
set_option maxRecDepth 100000 in
set_option maxHeartbeats 8000000 in
theorem dafter28 (w : World) (B c rm : Nat) (pv : Value) (p : List FnP) (mk : FMap) (y : FVals) (x : FnP) (bf bq bo gt ct bi br : Nat) (k gk : Nat) (told r : List Int) (i : InsP) (o : Nat) (d A T L M : Int)
    (qv2 : Value) (s : DSt) (wq : World) (HRd : Rnd p.length x k gk told r i o d L) (hM : RMem w B c rm pv p mk y x bf w.heap.size bq bo gt ct bi br #[.int .u8 (o : Int), .int .i64 i.a] #[.int .u8 A, .int .i64 T, .int .i64 L, .int .i64 M] qv2 s wq) (hI : DInv x.code.length s) (hm : handD k d x.handlers ⟨told, r, true⟩ = some s) (hng : negs s.told + s.todo.length = negs told + r.length) (h28 : (o : Int) = 28)
    (u0 u1 u2 u3 u5 u6 u7 u14 u15 u16 u17 u18 u19 u20 u21 u22 u23 u24 u25 u26 u27 u28 u29 u30 u31 u32 u33 u34 u35 u36 u37 u38 u39 u40 u41 u42 u43 u44 u45 u46 u47 u48 u49 u50 u51 u52 u53 u54 u55 u56 u57 u58 u59 u60 u61 u62 u63 u64 u65 u66 u67 u68 u69 u70 u71 u72 u73 u74 u75 u76 u77 u78 u79 u80 u81 u82 u83 u84 u85 u86 u87 u88 u89 u90 u91 u92 u93 u94 u95 u96 u97 u98 u99 u100 u101 u102 u103 u104 u105 u106 u107 u108 u109 u110 u111 u112 u113 u114 u115 u116 u117 u118 u119 u120 u121 u122 u123 u124 u125 u126 u127 u128 u129 u130 u131 u132 u133 u134 u135 u136 u137 u138 u139 u140 u141 u142 u143 u144 u145 u146 u147 u148 u149 u150 u151 u152 u153 u154 u155 u156 u157 u158 u159 u160 : Value) (Q : Exit → Act → World → Prop)
    (hexit : ∀ (x11 x123 x124 x125 x126 x127 x128 x129 x130 x131 x132 x133 x134 x135 x136 x137 x138 x139 x140 x141 x142 x143 x144 x145 x146 x147 x148 x149 x150 x151 x152 x153 x154 x155 x156 x157 x158 x159 : Value) (w' : World), (∃ (told' todo' : List Int) (qv' : Value), negs told' + todo'.length < gk ∧ LMem w B c rm pv p mk y x bf w.heap.size bq gt ct qv' told' todo' w' ∧ DInv x.code.length ⟨told', todo', true⟩ ∧ depthsP x = runD x (negs told' + todo'.length + 2) told' todo') → Q .normal ⟨#[u0, u1, u2, u3, .pointer (some ⟨w.heap.size, 0, none⟩), u5, u6, u7, .int .i64 k, .pointer (some ⟨bi, 0, none⟩), .pointer (some ⟨br, 0, none⟩), x11, .pointer (some ⟨bo, 0, none⟩), .func (.func 129) #[] #[.pointer (some ⟨w.heap.size, 0, none⟩), .pointer (some ⟨bq, 0, none⟩), .pointer (some ⟨bo, 0, none⟩)], u14, u15, u16, u17, u18, u19, u20, u21, u22, u23, u24, u25, u26, u27, u28, u29, u30, u31, u32, u33, u34, u35, u36, u37, u38, u39, u40, u41, u42, u43, u44, u45, u46, u47, u48, u49, u50, u51, u52, u53, u54, u55, u56, u57, u58, u59, u60, u61, u62, u63, u64, u65, u66, u67, u68, u69, u70, u71, u72, u73, u74, u75, u76, u77, u78, u79, u80, u81, u82, u83, u84, u85, u86, u87, u88, u89, u90, u91, u92, u93, u94, u95, u96, u97, u98, u99, u100, u101, u102, u103, u104, u105, u106, u107, u108, u109, u110, u111, u112, u113, u114, u115, u116, u117, u118, u119, u120, u121, u122, x123, x124, x125, x126, x127, x128, x129, x130, x131, x132, x133, x134, x135, x136, x137, x138, x139, x140, x141, x142, x143, x144, x145, x146, x147, x148, x149, x150, x151, x152, x153, x154, x155, x156, x157, x158, x159, u160], []⟩ w')
    (hret : ∀ (a : Act) (W : World), bodyPost Tryz.prog Tryz.f85 (DepIs x w) .ret a W → Q .ret a W) :
    Code.wp Tryz.prog dafter Q ⟨#[u0, u1, u2, u3, .pointer (some ⟨w.heap.size, 0, none⟩), u5, u6, u7, .int .i64 k, .pointer (some ⟨bi, 0, none⟩), .pointer (some ⟨br, 0, none⟩), .int .i64 d, .pointer (some ⟨bo, 0, none⟩), .func (.func 129) #[] #[.pointer (some ⟨w.heap.size, 0, none⟩), .pointer (some ⟨bq, 0, none⟩), .pointer (some ⟨bo, 0, none⟩)], u14, u15, u16, u17, u18, u19, u20, u21, u22, u23, u24, u25, u26, u27, u28, u29, u30, u31, u32, u33, u34, u35, u36, u37, u38, u39, u40, u41, u42, u43, u44, u45, u46, u47, u48, u49, u50, u51, u52, u53, u54, u55, u56, u57, u58, u59, u60, u61, u62, u63, u64, u65, u66, u67, u68, u69, u70, u71, u72, u73, u74, u75, u76, u77, u78, u79, u80, u81, u82, u83, u84, u85, u86, u87, u88, u89, u90, u91, u92, u93, u94, u95, u96, u97, u98, u99, u100, u101, u102, u103, u104, u105, u106, u107, u108, u109, u110, u111, u112, u113, u114, u115, u116, u117, u118, u119, u120, u121, u122, u123, u124, u125, u126, u127, u128, u129, u130, u131, u132, u133, u134, u135, u136, u137, u138, u139, u140, u141, u142, u143, u144, u145, u146, u147, u148, u149, u150, u151, u152, u153, u154, u155, u156, u157, u158, u159, u160], []⟩ wq := by
  have HSg := Lib.hid HRd.hs; have HI' := Lib.hid HRd.hi; have HE := Lib.hid HRd.he; have HO := Lib.hid HRd.ho; have HGK := Lib.hid HRd.hg
  have HNB := Lib.hid (And.intro HRd.num HRd.last)
  have hl := HRd.hl; have hd0 := HRd.d0; have hdL := HRd.dL; have hL0 := HRd.L0; have hkl := HRd.hk
  have HI2 := Lib.hid hI; have HR := Lib.hid hM; have HM := Lib.hid hm; have HNg := Lib.hid hng
  have HRet := Lib.hid hret; have HEx := Lib.hid hexit
  have r2 := HR.out.rb.cell 2
  have i0' := HR.out.ib.cell 0
  have i1' := HR.out.ib.cell 1
  have lr9 := HR.out.rb.lt
  have li9 := HR.out.ib.lt
  clear HRd hI hM hm hng hret hexit
  conv => arg 2; whnf
  have HEn : Hid (endD i.op i.a k (d + L) s = s) := Lib.hid (by unfold endD; rw [HO.out]; rw [if_pos (by omega)])
  have HSt : Hid (stepD x k i told r = some (s)) := Lib.hid (by rw [HSg.out, HM.out, Option.map_some, HEn.out])
  rcases bool_or (s).ok with hok | hok
  · have HOk : Hid ((s).ok = false) := Lib.hid hok
    clear hok
    have ok9 : wq.cell? ⟨bo, 0, none⟩ = some (.bool false) := by rw [← HOk.out]; exact HR.out.tm.ob.cell 0
    have b9 := HR.out.tm.ob.lt
    have m9 := HR.out.tm.tb.cell 0
    have z9 := HR.out.tm.tb.frozen 0
    have l9 := HR.out.tm.tb.lt
    go_wp2_with fail
    refine HRet.out _ _ ?_
    exact dep_bad2 HI'.out HE.out HSt.out HOk.out (Nat.le_refl _) HR.out.tm.tb HR.out.low rfl rfl rfl
  · have HOk : Hid ((s).ok = true) := Lib.hid hok
    clear hok
    have ok9 : wq.cell? ⟨bo, 0, none⟩ = some (.bool true) := by rw [← HOk.out]; exact HR.out.tm.ob.cell 0
    have b9 := HR.out.tm.ob.lt
    have m9 := HR.out.tm.tb.cell 0
    have z9 := HR.out.tm.tb.frozen 0
    have l9 := HR.out.tm.tb.lt
    go_wp2_with fail
    obtain ⟨n1, n2⟩ := dep_next HI'.out HE.out HSt.out HOk.out HGK.out (HNg.out)
    refine HEx.out _ _ _ _ _ _ _ _ _ _ _ _ _ _ _ _ _ _ _ _ _ _ _ _ _ _ _ _ _ _ _ _ _ _ _ _ _ _ _ ⟨_, _, _, n1, HR.out.l, ⟨HI2.out.len, HI2.out.fall, HI2.out.rng, HI2.out.deep⟩, n2⟩
set_option maxRecDepth 100000 in
set_option maxHeartbeats 8000000 in
theorem dafter29 (w : World) (B c rm : Nat) (pv : Value) (p : List FnP) (mk : FMap) (y : FVals) (x : FnP) (bf bq bo gt ct bi br : Nat) (k gk : Nat) (told r : List Int) (i : InsP) (o : Nat) (d A T L M : Int)
    (qv2 : Value) (s : DSt) (wq : World) (HRd : Rnd p.length x k gk told r i o d L) (hM : RMem w B c rm pv p mk y x bf w.heap.size bq bo gt ct bi br #[.int .u8 (o : Int), .int .i64 i.a] #[.int .u8 A, .int .i64 T, .int .i64 L, .int .i64 M] qv2 s wq) (hI : DInv x.code.length s) (hm : handD k d x.handlers ⟨told, r, true⟩ = some s) (hng : negs s.told + s.todo.length = negs told + r.length) (h29 : (o : Int) = 29)
    (u0 u1 u2 u3 u5 u6 u7 u14 u15 u16 u17 u18 u19 u20 u21 u22 u23 u24 u25 u26 u27 u28 u29 u30 u31 u32 u33 u34 u35 u36 u37 u38 u39 u40 u41 u42 u43 u44 u45 u46 u47 u48 u49 u50 u51 u52 u53 u54 u55 u56 u57 u58 u59 u60 u61 u62 u63 u64 u65 u66 u67 u68 u69 u70 u71 u72 u73 u74 u75 u76 u77 u78 u79 u80 u81 u82 u83 u84 u85 u86 u87 u88 u89 u90 u91 u92 u93 u94 u95 u96 u97 u98 u99 u100 u101 u102 u103 u104 u105 u106 u107 u108 u109 u110 u111 u112 u113 u114 u115 u116 u117 u118 u119 u120 u121 u122 u123 u124 u125 u126 u127 u128 u129 u130 u131 u132 u133 u134 u135 u136 u137 u138 u139 u140 u141 u142 u143 u144 u145 u146 u147 u148 u149 u150 u151 u152 u153 u154 u155 u156 u157 u158 u159 u160 : Value) (Q : Exit → Act → World → Prop)
    (hexit : ∀ (x11 x123 x124 x125 x126 x127 x128 x129 x130 x131 x132 x133 x134 x135 x136 x137 x138 x139 x140 x141 x142 x143 x144 x145 x146 x147 x148 x149 x150 x151 x152 x153 x154 x155 x156 x157 x158 x159 : Value) (w' : World), (∃ (told' todo' : List Int) (qv' : Value), negs told' + todo'.length < gk ∧ LMem w B c rm pv p mk y x bf w.heap.size bq gt ct qv' told' todo' w' ∧ DInv x.code.length ⟨told', todo', true⟩ ∧ depthsP x = runD x (negs told' + todo'.length + 2) told' todo') → Q .normal ⟨#[u0, u1, u2, u3, .pointer (some ⟨w.heap.size, 0, none⟩), u5, u6, u7, .int .i64 k, .pointer (some ⟨bi, 0, none⟩), .pointer (some ⟨br, 0, none⟩), x11, .pointer (some ⟨bo, 0, none⟩), .func (.func 129) #[] #[.pointer (some ⟨w.heap.size, 0, none⟩), .pointer (some ⟨bq, 0, none⟩), .pointer (some ⟨bo, 0, none⟩)], u14, u15, u16, u17, u18, u19, u20, u21, u22, u23, u24, u25, u26, u27, u28, u29, u30, u31, u32, u33, u34, u35, u36, u37, u38, u39, u40, u41, u42, u43, u44, u45, u46, u47, u48, u49, u50, u51, u52, u53, u54, u55, u56, u57, u58, u59, u60, u61, u62, u63, u64, u65, u66, u67, u68, u69, u70, u71, u72, u73, u74, u75, u76, u77, u78, u79, u80, u81, u82, u83, u84, u85, u86, u87, u88, u89, u90, u91, u92, u93, u94, u95, u96, u97, u98, u99, u100, u101, u102, u103, u104, u105, u106, u107, u108, u109, u110, u111, u112, u113, u114, u115, u116, u117, u118, u119, u120, u121, u122, x123, x124, x125, x126, x127, x128, x129, x130, x131, x132, x133, x134, x135, x136, x137, x138, x139, x140, x141, x142, x143, x144, x145, x146, x147, x148, x149, x150, x151, x152, x153, x154, x155, x156, x157, x158, x159, u160], []⟩ w')
    (hret : ∀ (a : Act) (W : World), bodyPost Tryz.prog Tryz.f85 (DepIs x w) .ret a W → Q .ret a W) :
    Code.wp Tryz.prog dafter Q ⟨#[u0, u1, u2, u3, .pointer (some ⟨w.heap.size, 0, none⟩), u5, u6, u7, .int .i64 k, .pointer (some ⟨bi, 0, none⟩), .pointer (some ⟨br, 0, none⟩), .int .i64 d, .pointer (some ⟨bo, 0, none⟩), .func (.func 129) #[] #[.pointer (some ⟨w.heap.size, 0, none⟩), .pointer (some ⟨bq, 0, none⟩), .pointer (some ⟨bo, 0, none⟩)], u14, u15, u16, u17, u18, u19, u20, u21, u22, u23, u24, u25, u26, u27, u28, u29, u30, u31, u32, u33, u34, u35, u36, u37, u38, u39, u40, u41, u42, u43, u44, u45, u46, u47, u48, u49, u50, u51, u52, u53, u54, u55, u56, u57, u58, u59, u60, u61, u62, u63, u64, u65, u66, u67, u68, u69, u70, u71, u72, u73, u74, u75, u76, u77, u78, u79, u80, u81, u82, u83, u84, u85, u86, u87, u88, u89, u90, u91, u92, u93, u94, u95, u96, u97, u98, u99, u100, u101, u102, u103, u104, u105, u106, u107, u108, u109, u110, u111, u112, u113, u114, u115, u116, u117, u118, u119, u120, u121, u122, u123, u124, u125, u126, u127, u128, u129, u130, u131, u132, u133, u134, u135, u136, u137, u138, u139, u140, u141, u142, u143, u144, u145, u146, u147, u148, u149, u150, u151, u152, u153, u154, u155, u156, u157, u158, u159, u160], []⟩ wq := by
  have HSg := Lib.hid HRd.hs; have HI' := Lib.hid HRd.hi; have HE := Lib.hid HRd.he; have HO := Lib.hid HRd.ho; have HGK := Lib.hid HRd.hg
  have HNB := Lib.hid (And.intro HRd.num HRd.last)
  have hl := HRd.hl; have hd0 := HRd.d0; have hdL := HRd.dL; have hL0 := HRd.L0; have hkl := HRd.hk
  have HI2 := Lib.hid hI; have HR := Lib.hid hM; have HM := Lib.hid hm; have HNg := Lib.hid hng
  have HRet := Lib.hid hret; have HEx := Lib.hid hexit
  have r2 := HR.out.rb.cell 2
  have i0' := HR.out.ib.cell 0
  have i1' := HR.out.ib.cell 1
  have lr9 := HR.out.rb.lt
  have li9 := HR.out.ib.lt
  clear HRd hI hM hm hng hret hexit
  conv => arg 2; whnf
  have HEn : Hid (endD i.op i.a k (d + L) s = s) := Lib.hid (by unfold endD; rw [HO.out]; rw [if_pos (by omega)])
  have HSt : Hid (stepD x k i told r = some (s)) := Lib.hid (by rw [HSg.out, HM.out, Option.map_some, HEn.out])
  rcases bool_or (s).ok with hok | hok
  · have HOk : Hid ((s).ok = false) := Lib.hid hok
    clear hok
    have ok9 : wq.cell? ⟨bo, 0, none⟩ = some (.bool false) := by rw [← HOk.out]; exact HR.out.tm.ob.cell 0
    have b9 := HR.out.tm.ob.lt
    have m9 := HR.out.tm.tb.cell 0
    have z9 := HR.out.tm.tb.frozen 0
    have l9 := HR.out.tm.tb.lt
    go_wp2_with fail
    refine HRet.out _ _ ?_
    exact dep_bad2 HI'.out HE.out HSt.out HOk.out (Nat.le_refl _) HR.out.tm.tb HR.out.low rfl rfl rfl
  · have HOk : Hid ((s).ok = true) := Lib.hid hok
    clear hok
    have ok9 : wq.cell? ⟨bo, 0, none⟩ = some (.bool true) := by rw [← HOk.out]; exact HR.out.tm.ob.cell 0
    have b9 := HR.out.tm.ob.lt
    have m9 := HR.out.tm.tb.cell 0
    have z9 := HR.out.tm.tb.frozen 0
    have l9 := HR.out.tm.tb.lt
    go_wp2_with fail
    obtain ⟨n1, n2⟩ := dep_next HI'.out HE.out HSt.out HOk.out HGK.out (HNg.out)
    refine HEx.out _ _ _ _ _ _ _ _ _ _ _ _ _ _ _ _ _ _ _ _ _ _ _ _ _ _ _ _ _ _ _ _ _ _ _ _ _ _ _ ⟨_, _, _, n1, HR.out.l, ⟨HI2.out.len, HI2.out.fall, HI2.out.rng, HI2.out.deep⟩, n2⟩
set_option maxRecDepth 100000 in
set_option maxHeartbeats 8000000 in
theorem dafter19 (w : World) (B c rm : Nat) (pv : Value) (p : List FnP) (mk : FMap) (y : FVals) (x : FnP) (bf bq bo gt ct bi br : Nat) (k gk : Nat) (told r : List Int) (i : InsP) (o : Nat) (d A T L M : Int)
    (qv2 : Value) (s : DSt) (wq : World) (HRd : Rnd p.length x k gk told r i o d L) (hM : RMem w B c rm pv p mk y x bf w.heap.size bq bo gt ct bi br #[.int .u8 (o : Int), .int .i64 i.a] #[.int .u8 A, .int .i64 T, .int .i64 L, .int .i64 M] qv2 s wq) (hI : DInv x.code.length s) (hm : handD k d x.handlers ⟨told, r, true⟩ = some s) (hng : negs s.told + s.todo.length = negs told + r.length) (h19 : (o : Int) = 19)
    (u0 u1 u2 u3 u5 u6 u7 u14 u15 u16 u17 u18 u19 u20 u21 u22 u23 u24 u25 u26 u27 u28 u29 u30 u31 u32 u33 u34 u35 u36 u37 u38 u39 u40 u41 u42 u43 u44 u45 u46 u47 u48 u49 u50 u51 u52 u53 u54 u55 u56 u57 u58 u59 u60 u61 u62 u63 u64 u65 u66 u67 u68 u69 u70 u71 u72 u73 u74 u75 u76 u77 u78 u79 u80 u81 u82 u83 u84 u85 u86 u87 u88 u89 u90 u91 u92 u93 u94 u95 u96 u97 u98 u99 u100 u101 u102 u103 u104 u105 u106 u107 u108 u109 u110 u111 u112 u113 u114 u115 u116 u117 u118 u119 u120 u121 u122 u123 u124 u125 u126 u127 u128 u129 u130 u131 u132 u133 u134 u135 u136 u137 u138 u139 u140 u141 u142 u143 u144 u145 u146 u147 u148 u149 u150 u151 u152 u153 u154 u155 u156 u157 u158 u159 u160 : Value) (Q : Exit → Act → World → Prop)
    (hexit : ∀ (x11 x123 x124 x125 x126 x127 x128 x129 x130 x131 x132 x133 x134 x135 x136 x137 x138 x139 x140 x141 x142 x143 x144 x145 x146 x147 x148 x149 x150 x151 x152 x153 x154 x155 x156 x157 x158 x159 : Value) (w' : World), (∃ (told' todo' : List Int) (qv' : Value), negs told' + todo'.length < gk ∧ LMem w B c rm pv p mk y x bf w.heap.size bq gt ct qv' told' todo' w' ∧ DInv x.code.length ⟨told', todo', true⟩ ∧ depthsP x = runD x (negs told' + todo'.length + 2) told' todo') → Q .normal ⟨#[u0, u1, u2, u3, .pointer (some ⟨w.heap.size, 0, none⟩), u5, u6, u7, .int .i64 k, .pointer (some ⟨bi, 0, none⟩), .pointer (some ⟨br, 0, none⟩), x11, .pointer (some ⟨bo, 0, none⟩), .func (.func 129) #[] #[.pointer (some ⟨w.heap.size, 0, none⟩), .pointer (some ⟨bq, 0, none⟩), .pointer (some ⟨bo, 0, none⟩)], u14, u15, u16, u17, u18, u19, u20, u21, u22, u23, u24, u25, u26, u27, u28, u29, u30, u31, u32, u33, u34, u35, u36, u37, u38, u39, u40, u41, u42, u43, u44, u45, u46, u47, u48, u49, u50, u51, u52, u53, u54, u55, u56, u57, u58, u59, u60, u61, u62, u63, u64, u65, u66, u67, u68, u69, u70, u71, u72, u73, u74, u75, u76, u77, u78, u79, u80, u81, u82, u83, u84, u85, u86, u87, u88, u89, u90, u91, u92, u93, u94, u95, u96, u97, u98, u99, u100, u101, u102, u103, u104, u105, u106, u107, u108, u109, u110, u111, u112, u113, u114, u115, u116, u117, u118, u119, u120, u121, u122, x123, x124, x125, x126, x127, x128, x129, x130, x131, x132, x133, x134, x135, x136, x137, x138, x139, x140, x141, x142, x143, x144, x145, x146, x147, x148, x149, x150, x151, x152, x153, x154, x155, x156, x157, x158, x159, u160], []⟩ w')
    (hret : ∀ (a : Act) (W : World), bodyPost Tryz.prog Tryz.f85 (DepIs x w) .ret a W → Q .ret a W) :
    Code.wp Tryz.prog dafter Q ⟨#[u0, u1, u2, u3, .pointer (some ⟨w.heap.size, 0, none⟩), u5, u6, u7, .int .i64 k, .pointer (some ⟨bi, 0, none⟩), .pointer (some ⟨br, 0, none⟩), .int .i64 d, .pointer (some ⟨bo, 0, none⟩), .func (.func 129) #[] #[.pointer (some ⟨w.heap.size, 0, none⟩), .pointer (some ⟨bq, 0, none⟩), .pointer (some ⟨bo, 0, none⟩)], u14, u15, u16, u17, u18, u19, u20, u21, u22, u23, u24, u25, u26, u27, u28, u29, u30, u31, u32, u33, u34, u35, u36, u37, u38, u39, u40, u41, u42, u43, u44, u45, u46, u47, u48, u49, u50, u51, u52, u53, u54, u55, u56, u57, u58, u59, u60, u61, u62, u63, u64, u65, u66, u67, u68, u69, u70, u71, u72, u73, u74, u75, u76, u77, u78, u79, u80, u81, u82, u83, u84, u85, u86, u87, u88, u89, u90, u91, u92, u93, u94, u95, u96, u97, u98, u99, u100, u101, u102, u103, u104, u105, u106, u107, u108, u109, u110, u111, u112, u113, u114, u115, u116, u117, u118, u119, u120, u121, u122, u123, u124, u125, u126, u127, u128, u129, u130, u131, u132, u133, u134, u135, u136, u137, u138, u139, u140, u141, u142, u143, u144, u145, u146, u147, u148, u149, u150, u151, u152, u153, u154, u155, u156, u157, u158, u159, u160], []⟩ wq := by
  have HSg := Lib.hid HRd.hs; have HI' := Lib.hid HRd.hi; have HE := Lib.hid HRd.he; have HO := Lib.hid HRd.ho; have HGK := Lib.hid HRd.hg
  have HNB := Lib.hid (And.intro HRd.num HRd.last)
  have hl := HRd.hl; have hd0 := HRd.d0; have hdL := HRd.dL; have hL0 := HRd.L0; have hkl := HRd.hk
  have HI2 := Lib.hid hI; have HR := Lib.hid hM; have HM := Lib.hid hm; have HNg := Lib.hid hng
  have HRet := Lib.hid hret; have HEx := Lib.hid hexit
  have r2 := HR.out.rb.cell 2
  have i0' := HR.out.ib.cell 0
  have i1' := HR.out.ib.cell 1
  have lr9 := HR.out.rb.lt
  have li9 := HR.out.ib.lt
  clear HRd hI hM hm hng hret hexit
  conv => arg 2; whnf
  have hjp : 0 ≤ i.a ∧ i.a < (x.code.length : Int) := numB_jump HNB.out.1 (by rw [HO.out]; omega) hkl
  have HEn : Hid (endD i.op i.a k (d + L) s = tellD i.a (d + L) s) := Lib.hid (by unfold endD; rw [HO.out]; rw [if_neg (by omega), if_pos (by omega)])
  have HSt : Hid (stepD x k i told r = some (tellD i.a (d + L) s)) := Lib.hid (by rw [HSg.out, HM.out, Option.map_some, HEn.out])
  rcases bool_or (tellD i.a (d + L) s).ok with hok | hok
  · have HOk : Hid ((tellD i.a (d + L) s).ok = false) := Lib.hid hok
    clear hok
    go_wp2_with (first
      | (go_at_call 129; refine (tell_n w.heap.size w.heap.size bq bo gt ct qv2 _ wq (i.a) (d + L) HR.out.tm HI2.out hjp hl (by omega)).mono ?_; rintro e x1 ⟨rfl, q1, t1, u1⟩; have h1 := Lib.hid (HR.out.turn t1 u1); have k1 := Lib.hid (tell_keep HI2.out hjp (d := d + L) (by omega) rfl).1; clear t1 u1; have ok9 : x1.cell? ⟨bo, 0, none⟩ = some (.bool false) := (by rw [← HOk.out]; exact h1.out.tm.ob.cell 0); have b9 := h1.out.tm.ob.lt; have m9 := h1.out.tm.tb.cell 0; have z9 := h1.out.tm.tb.frozen 0; have l9 := h1.out.tm.tb.lt))
    refine HRet.out _ _ ?_
    exact dep_bad2 HI'.out HE.out HSt.out HOk.out (Nat.le_refl _) h1.out.tm.tb h1.out.low rfl rfl rfl
  · have HOk : Hid ((tellD i.a (d + L) s).ok = true) := Lib.hid hok
    clear hok
    go_wp2_with (first
      | (go_at_call 129; refine (tell_n w.heap.size w.heap.size bq bo gt ct qv2 _ wq (i.a) (d + L) HR.out.tm HI2.out hjp hl (by omega)).mono ?_; rintro e x1 ⟨rfl, q1, t1, u1⟩; have h1 := Lib.hid (HR.out.turn t1 u1); have k1 := Lib.hid (tell_keep HI2.out hjp (d := d + L) (by omega) rfl).1; clear t1 u1; have ok9 : x1.cell? ⟨bo, 0, none⟩ = some (.bool true) := (by rw [← HOk.out]; exact h1.out.tm.ob.cell 0); have b9 := h1.out.tm.ob.lt; have m9 := h1.out.tm.tb.cell 0; have z9 := h1.out.tm.tb.frozen 0; have l9 := h1.out.tm.tb.lt))
    obtain ⟨n1, n2⟩ := dep_next HI'.out HE.out HSt.out HOk.out HGK.out ((tell_keep HI2.out hjp (d := d + L) (by omega) HNg.out).2)
    refine HEx.out _ _ _ _ _ _ _ _ _ _ _ _ _ _ _ _ _ _ _ _ _ _ _ _ _ _ _ _ _ _ _ _ _ _ _ _ _ _ _ ⟨_, _, _, n1, h1.out.l, ⟨k1.out.len, k1.out.fall, k1.out.rng, k1.out.deep⟩, n2⟩
set_option maxRecDepth 100000 in
set_option maxHeartbeats 8000000 in
theorem dafter21 (w : World) (B c rm : Nat) (pv : Value) (p : List FnP) (mk : FMap) (y : FVals) (x : FnP) (bf bq bo gt ct bi br : Nat) (k gk : Nat) (told r : List Int) (i : InsP) (o : Nat) (d A T L M : Int)
    (qv2 : Value) (s : DSt) (wq : World) (HRd : Rnd p.length x k gk told r i o d L) (hM : RMem w B c rm pv p mk y x bf w.heap.size bq bo gt ct bi br #[.int .u8 (o : Int), .int .i64 i.a] #[.int .u8 A, .int .i64 T, .int .i64 L, .int .i64 M] qv2 s wq) (hI : DInv x.code.length s) (hm : handD k d x.handlers ⟨told, r, true⟩ = some s) (hng : negs s.told + s.todo.length = negs told + r.length) (h21 : (o : Int) = 21)
    (u0 u1 u2 u3 u5 u6 u7 u14 u15 u16 u17 u18 u19 u20 u21 u22 u23 u24 u25 u26 u27 u28 u29 u30 u31 u32 u33 u34 u35 u36 u37 u38 u39 u40 u41 u42 u43 u44 u45 u46 u47 u48 u49 u50 u51 u52 u53 u54 u55 u56 u57 u58 u59 u60 u61 u62 u63 u64 u65 u66 u67 u68 u69 u70 u71 u72 u73 u74 u75 u76 u77 u78 u79 u80 u81 u82 u83 u84 u85 u86 u87 u88 u89 u90 u91 u92 u93 u94 u95 u96 u97 u98 u99 u100 u101 u102 u103 u104 u105 u106 u107 u108 u109 u110 u111 u112 u113 u114 u115 u116 u117 u118 u119 u120 u121 u122 u123 u124 u125 u126 u127 u128 u129 u130 u131 u132 u133 u134 u135 u136 u137 u138 u139 u140 u141 u142 u143 u144 u145 u146 u147 u148 u149 u150 u151 u152 u153 u154 u155 u156 u157 u158 u159 u160 : Value) (Q : Exit → Act → World → Prop)
    (hexit : ∀ (x11 x123 x124 x125 x126 x127 x128 x129 x130 x131 x132 x133 x134 x135 x136 x137 x138 x139 x140 x141 x142 x143 x144 x145 x146 x147 x148 x149 x150 x151 x152 x153 x154 x155 x156 x157 x158 x159 : Value) (w' : World), (∃ (told' todo' : List Int) (qv' : Value), negs told' + todo'.length < gk ∧ LMem w B c rm pv p mk y x bf w.heap.size bq gt ct qv' told' todo' w' ∧ DInv x.code.length ⟨told', todo', true⟩ ∧ depthsP x = runD x (negs told' + todo'.length + 2) told' todo') → Q .normal ⟨#[u0, u1, u2, u3, .pointer (some ⟨w.heap.size, 0, none⟩), u5, u6, u7, .int .i64 k, .pointer (some ⟨bi, 0, none⟩), .pointer (some ⟨br, 0, none⟩), x11, .pointer (some ⟨bo, 0, none⟩), .func (.func 129) #[] #[.pointer (some ⟨w.heap.size, 0, none⟩), .pointer (some ⟨bq, 0, none⟩), .pointer (some ⟨bo, 0, none⟩)], u14, u15, u16, u17, u18, u19, u20, u21, u22, u23, u24, u25, u26, u27, u28, u29, u30, u31, u32, u33, u34, u35, u36, u37, u38, u39, u40, u41, u42, u43, u44, u45, u46, u47, u48, u49, u50, u51, u52, u53, u54, u55, u56, u57, u58, u59, u60, u61, u62, u63, u64, u65, u66, u67, u68, u69, u70, u71, u72, u73, u74, u75, u76, u77, u78, u79, u80, u81, u82, u83, u84, u85, u86, u87, u88, u89, u90, u91, u92, u93, u94, u95, u96, u97, u98, u99, u100, u101, u102, u103, u104, u105, u106, u107, u108, u109, u110, u111, u112, u113, u114, u115, u116, u117, u118, u119, u120, u121, u122, x123, x124, x125, x126, x127, x128, x129, x130, x131, x132, x133, x134, x135, x136, x137, x138, x139, x140, x141, x142, x143, x144, x145, x146, x147, x148, x149, x150, x151, x152, x153, x154, x155, x156, x157, x158, x159, u160], []⟩ w')
    (hret : ∀ (a : Act) (W : World), bodyPost Tryz.prog Tryz.f85 (DepIs x w) .ret a W → Q .ret a W) :
    Code.wp Tryz.prog dafter Q ⟨#[u0, u1, u2, u3, .pointer (some ⟨w.heap.size, 0, none⟩), u5, u6, u7, .int .i64 k, .pointer (some ⟨bi, 0, none⟩), .pointer (some ⟨br, 0, none⟩), .int .i64 d, .pointer (some ⟨bo, 0, none⟩), .func (.func 129) #[] #[.pointer (some ⟨w.heap.size, 0, none⟩), .pointer (some ⟨bq, 0, none⟩), .pointer (some ⟨bo, 0, none⟩)], u14, u15, u16, u17, u18, u19, u20, u21, u22, u23, u24, u25, u26, u27, u28, u29, u30, u31, u32, u33, u34, u35, u36, u37, u38, u39, u40, u41, u42, u43, u44, u45, u46, u47, u48, u49, u50, u51, u52, u53, u54, u55, u56, u57, u58, u59, u60, u61, u62, u63, u64, u65, u66, u67, u68, u69, u70, u71, u72, u73, u74, u75, u76, u77, u78, u79, u80, u81, u82, u83, u84, u85, u86, u87, u88, u89, u90, u91, u92, u93, u94, u95, u96, u97, u98, u99, u100, u101, u102, u103, u104, u105, u106, u107, u108, u109, u110, u111, u112, u113, u114, u115, u116, u117, u118, u119, u120, u121, u122, u123, u124, u125, u126, u127, u128, u129, u130, u131, u132, u133, u134, u135, u136, u137, u138, u139, u140, u141, u142, u143, u144, u145, u146, u147, u148, u149, u150, u151, u152, u153, u154, u155, u156, u157, u158, u159, u160], []⟩ wq := by
  have HSg := Lib.hid HRd.hs; have HI' := Lib.hid HRd.hi; have HE := Lib.hid HRd.he; have HO := Lib.hid HRd.ho; have HGK := Lib.hid HRd.hg
  have HNB := Lib.hid (And.intro HRd.num HRd.last)
  have hl := HRd.hl; have hd0 := HRd.d0; have hdL := HRd.dL; have hL0 := HRd.L0; have hkl := HRd.hk
  have HI2 := Lib.hid hI; have HR := Lib.hid hM; have HM := Lib.hid hm; have HNg := Lib.hid hng
  have HRet := Lib.hid hret; have HEx := Lib.hid hexit
  have r2 := HR.out.rb.cell 2
  have i0' := HR.out.ib.cell 0
  have i1' := HR.out.ib.cell 1
  have lr9 := HR.out.rb.lt
  have li9 := HR.out.ib.lt
  clear HRd hI hM hm hng hret hexit
  conv => arg 2; whnf
  have hjp : 0 ≤ i.a ∧ i.a < (x.code.length : Int) := numB_jump HNB.out.1 (by rw [HO.out]; omega) hkl
  have HEn : Hid (endD i.op i.a k (d + L) s = tellD i.a (d + L) s) := Lib.hid (by unfold endD; rw [HO.out]; rw [if_neg (by omega), if_pos (by omega)])
  have HSt : Hid (stepD x k i told r = some (tellD i.a (d + L) s)) := Lib.hid (by rw [HSg.out, HM.out, Option.map_some, HEn.out])
  rcases bool_or (tellD i.a (d + L) s).ok with hok | hok
  · have HOk : Hid ((tellD i.a (d + L) s).ok = false) := Lib.hid hok
    clear hok
    go_wp2_with (first
      | (go_at_call 129; refine (tell_n w.heap.size w.heap.size bq bo gt ct qv2 _ wq (i.a) (d + L) HR.out.tm HI2.out hjp hl (by omega)).mono ?_; rintro e x1 ⟨rfl, q1, t1, u1⟩; have h1 := Lib.hid (HR.out.turn t1 u1); have k1 := Lib.hid (tell_keep HI2.out hjp (d := d + L) (by omega) rfl).1; clear t1 u1; have ok9 : x1.cell? ⟨bo, 0, none⟩ = some (.bool false) := (by rw [← HOk.out]; exact h1.out.tm.ob.cell 0); have b9 := h1.out.tm.ob.lt; have m9 := h1.out.tm.tb.cell 0; have z9 := h1.out.tm.tb.frozen 0; have l9 := h1.out.tm.tb.lt))
    refine HRet.out _ _ ?_
    exact dep_bad2 HI'.out HE.out HSt.out HOk.out (Nat.le_refl _) h1.out.tm.tb h1.out.low rfl rfl rfl
  · have HOk : Hid ((tellD i.a (d + L) s).ok = true) := Lib.hid hok
    clear hok
    go_wp2_with (first
      | (go_at_call 129; refine (tell_n w.heap.size w.heap.size bq bo gt ct qv2 _ wq (i.a) (d + L) HR.out.tm HI2.out hjp hl (by omega)).mono ?_; rintro e x1 ⟨rfl, q1, t1, u1⟩; have h1 := Lib.hid (HR.out.turn t1 u1); have k1 := Lib.hid (tell_keep HI2.out hjp (d := d + L) (by omega) rfl).1; clear t1 u1; have ok9 : x1.cell? ⟨bo, 0, none⟩ = some (.bool true) := (by rw [← HOk.out]; exact h1.out.tm.ob.cell 0); have b9 := h1.out.tm.ob.lt; have m9 := h1.out.tm.tb.cell 0; have z9 := h1.out.tm.tb.frozen 0; have l9 := h1.out.tm.tb.lt))
    obtain ⟨n1, n2⟩ := dep_next HI'.out HE.out HSt.out HOk.out HGK.out ((tell_keep HI2.out hjp (d := d + L) (by omega) HNg.out).2)
    refine HEx.out _ _ _ _ _ _ _ _ _ _ _ _ _ _ _ _ _ _ _ _ _ _ _ _ _ _ _ _ _ _ _ _ _ _ _ _ _ _ _ ⟨_, _, _, n1, h1.out.l, ⟨k1.out.len, k1.out.fall, k1.out.rng, k1.out.deep⟩, n2⟩
end Go.Proofs.YtkmfdiboekoioaaGreat
