/- The walk of the loop of live.Of that takes a block's nodes out of a set. No condition but that these are what they are. -/
import Derived.Test.YtkmfdiboekoioaaGreatCLivePure
import Derived.Deep.LoopGhost
set_option linter.unusedSimpArgs false
set_option linter.unusedVariables false
namespace Go.Proofs.YtkmfdiboekoioaaGreat
open Go.RowKit
def loopsOf : Code → List Code
 | .loop c => c :: loopsOf c
 | .seq a b => loopsOf a ++ loopsOf b
 | .block _ c => loopsOf c
 | .scope c => loopsOf c
 | .cond _ a b => loopsOf a ++ loopsOf b
 | _ => []
noncomputable def loop5 : Code := ((Tryz.f15.body.map loopsOf).getD []).getD 4 .skip

set_option maxRecDepth 100000 in
set_option maxHeartbeats 4000000 in
theorem loop5_any (w : World) (r : Nat) (p : ISet) (A : Option Addr) (c : Nat) (l : List Int) (hset : SetM w r p) (hl : IntsV w w.heap.size (.slice A l.length c) l)
  (u0 u1 u2 u3 u4 u5 u6 u7 u8 u9 u10 u11 u12 u13 u15 u16 u17 u18 u19 u20 u21 u22 u23 u24 u25 u26 u27 u28 u29 u30 u31 u32 u33 u34 u35 u36 u37 u38 u39 u40 u41 u42 u43 u44 u45 u46 u47 u48 u49 u50 u51 u52 u53 u54 u55 u56 u57 u58 u59 u60 u61 u62 u63 u64 u65 u66 u67 u68 u69 u70 u71 u72 u73 u74 u75 u76 u77 u78 u79 u80 u81 u82 u83 u84 u85 u86 u87 u88 u89 u90 u91 u92 u93 u94 u95 u96 u97 u98 u99 u100 u101 u102 u103 u104 u105 u106 u107 u108 u109 u110 u111 u112 u113 u114 u115 u116 u117 u118 u119 u120 u121 u122 u123 u124 u125 u126 u127 u128 u129 u130 u131 u132 u133 u134 u135 u136 u137 u138 u139 u140 u141 u142 u146 u147 u148 u149 u150 u151 u152 u153 u154 u155 u156 u157 u158 u159 u160 u161 u162 u163 u164 u165 u166 u167 u168 u169 u170 u171 u172 u173 u174 u175 u176 u177 u178 u179 u180 u181 u182 u183 u184 u185 u186 u187 u188 u189 u190 u191 u192 u193 u194 u195 u196 u197 u198 u199 u200 u201 u202 u203 u204 u205 u206 u207 u208 u209 u210 u211 u212 : Value) (Q : Exit → Act → World → Prop)
  (hexit : ∀ (x18 x145 x146 x147 x148 x149 x150 x151 : Value) (w' : World), (SetM w' r (l.foldl ISet.del p) ∧ w.grownBy w' (some r)) → Q (.exit 8) ⟨#[u0, u1, u2, u3, u4, u5, u6, u7, u8, u9, u10, u11, u12, u13, .map (some r), u15, u16, u17, x18, u19, u20, u21, u22, u23, u24, u25, u26, u27, u28, u29, u30, u31, u32, u33, u34, u35, u36, u37, u38, u39, u40, u41, u42, u43, u44, u45, u46, u47, u48, u49, u50, u51, u52, u53, u54, u55, u56, u57, u58, u59, u60, u61, u62, u63, u64, u65, u66, u67, u68, u69, u70, u71, u72, u73, u74, u75, u76, u77, u78, u79, u80, u81, u82, u83, u84, u85, u86, u87, u88, u89, u90, u91, u92, u93, u94, u95, u96, u97, u98, u99, u100, u101, u102, u103, u104, u105, u106, u107, u108, u109, u110, u111, u112, u113, u114, u115, u116, u117, u118, u119, u120, u121, u122, u123, u124, u125, u126, u127, u128, u129, u130, u131, u132, u133, u134, u135, u136, u137, u138, u139, u140, u141, u142, .slice A l.length c, .int .i64 l.length, x145, x146, x147, x148, x149, x150, x151, u152, u153, u154, u155, u156, u157, u158, u159, u160, u161, u162, u163, u164, u165, u166, u167, u168, u169, u170, u171, u172, u173, u174, u175, u176, u177, u178, u179, u180, u181, u182, u183, u184, u185, u186, u187, u188, u189, u190, u191, u192, u193, u194, u195, u196, u197, u198, u199, u200, u201, u202, u203, u204, u205, u206, u207, u208, u209, u210, u211, u212], []⟩ w') :
  Code.wp Tryz.prog (Code.loop loop5) Q ⟨#[u0, u1, u2, u3, u4, u5, u6, u7, u8, u9, u10, u11, u12, u13, .map (some r), u15, u16, u17, u18, u19, u20, u21, u22, u23, u24, u25, u26, u27, u28, u29, u30, u31, u32, u33, u34, u35, u36, u37, u38, u39, u40, u41, u42, u43, u44, u45, u46, u47, u48, u49, u50, u51, u52, u53, u54, u55, u56, u57, u58, u59, u60, u61, u62, u63, u64, u65, u66, u67, u68, u69, u70, u71, u72, u73, u74, u75, u76, u77, u78, u79, u80, u81, u82, u83, u84, u85, u86, u87, u88, u89, u90, u91, u92, u93, u94, u95, u96, u97, u98, u99, u100, u101, u102, u103, u104, u105, u106, u107, u108, u109, u110, u111, u112, u113, u114, u115, u116, u117, u118, u119, u120, u121, u122, u123, u124, u125, u126, u127, u128, u129, u130, u131, u132, u133, u134, u135, u136, u137, u138, u139, u140, u141, u142, .slice A l.length c, .int .i64 l.length, .int .i64 0, u146, u147, u148, u149, u150, u151, u152, u153, u154, u155, u156, u157, u158, u159, u160, u161, u162, u163, u164, u165, u166, u167, u168, u169, u170, u171, u172, u173, u174, u175, u176, u177, u178, u179, u180, u181, u182, u183, u184, u185, u186, u187, u188, u189, u190, u191, u192, u193, u194, u195, u196, u197, u198, u199, u200, u201, u202, u203, u204, u205, u206, u207, u208, u209, u210, u211, u212], []⟩ w := by
 have HSet := Lib.hid hset; have HL := Lib.hid hl
 have hlim : l.length ≤ 17592186044416 := by obtain ⟨_, _, _, _, hlc, _⟩ := hl; unfold lim at hlc; omega
 clear hset hl
 conv => arg 2; arg 1; whnf
 dsimp only
 go_loopw [145] (fun i wr => ∃ k : Nat, k ≤ l.length ∧ i = .int .i64 k ∧ SetM wr r ((l.take k).foldl ISet.del p) ∧ w.grownBy wr (some r)) (fun i _ => l.length - (intOf i).toNat)
 case atStart => exact ⟨0, Nat.zero_le _, rfl, HSet.out, World.grownBy.refl _ _⟩
 case round =>
  obtain ⟨k, hk, rfl, hs, hg⟩ := hrel
  have HS := Lib.hid hs; have HG := Lib.hid hg
  clear hs hg
  by_cases hlt : k < l.length
  ·obtain ⟨b, off, rfl, hbB, hp⟩ := (grown_ints HSet.out HS.out HG.out (Nat.le_refl _) HL.out).cells hlt
   obtain ⟨x, hx⟩ := getE hlt
   have f0 := hp k x hx
   have HX := Lib.hid hx
   clear hp hx
   obtain ⟨w1, hrun, hm1, hg1, hs1⟩ := IMap.delete (P := Tryz.prog) HS.out Tryz.underlying95 Tryz.underlying3 0 3 x
   have HM := Lib.hid hm1
   clear hm1 hs1
   go_wp2_with fail
   go_roundw
   case rel => exact ⟨k + 1, by omega, by go_num, by rw [List.take_add_one, HX.out, List.foldl_append]; have := HM.out; rwa [setF_del] at this, HG.out.trans hg1⟩
   case measure => simp [intOf]; omega
  ·go_wp2_with fail
   refine ⟨?_, HG.out⟩
   have := HS.out
   rwa [List.take_of_length_le (by omega)] at this

end Go.Proofs.YtkmfdiboekoioaaGreat
