/- The loop of alloc.spots over the blocks. Conditions: a graph that is small; a map for each node. -/
import Derived.Test.YtkmfdiboekoioaaIter
namespace Go.Proofs.Ytkmfdiboekoioaa
open Go.RowKit Go.Shelf
attribute [local go_sem] Oper.semAt_some

def SpotsIs (g : GraphP) (bo : Nat) (ro : List Nat) (w : World) (e : Ending) (w' : World) : Prop := e = .returned (.tuple #[]) ∧ ∃ I O, LiveIs g I O ∧ MRow w' bo ro (meetAll g I O) ∧ Turned w w' ro
/-- What holds at the head of the loop over the blocks. -/
def AtBlock (W0 : World) (o : OutNums) (vn vs : Value) (Ab : Option Addr) (cb : Nat) (g : GraphP) (I O : Sets) (base0 : Nat) (a : Act) (W : World) : Prop :=
  ∃ (k : Nat) (ds : List Deferred) (u0 u1 u6 u7 u8 u9 u10 u11 u12 u13 u14 u15 u16 u17 u18 u22 u23 u24 u25 u26 u27 u28 u29 u30 u31 u32 u33 u34 u35 u36 u37 u38 u39 u40 u41 u42 u43 u44 u45 u46 u47 u48 u49 u50 u51 u52 u53 u54 u55 u56 u57 u58 u59 u60 u61 u62 u63 u64 u65 u66 u67 u68 u69 u70 u71 u72 u73 u74 u75 u76 u77 u78 u79 u80 u81 u82 u83 u84 u85 u86 u87 u88 u89 u90 u91 u92 u93 u94 u95 u96 u97 u98 u99 u100 u101 u102 u103 u104 u105 u106 u107 u108 u109 u110 u111 u112 u113 : Value), k ≤ g.blocks.length ∧ OutMem o ⟨vn, .slice Ab g.blocks.length cb, vs⟩ g (listsTo g.nodes.length I g.blocks.length) (listsTo g.nodes.length O g.blocks.length) W (meetTo g I O k) ∧ MarksOk base0 W ds ∧ base0 ≤ W.heap.size ∧ TurnB base0 W0 W o.ro ∧ a = ⟨#[u0, u1, .pointer (some ⟨o.g2, 0, none⟩), .pointer (some ⟨o.t3, 0, none⟩), .pointer (some ⟨o.l4, 0, none⟩), .pointer (some ⟨o.h5, 0, none⟩), u6, u7, u8, u9, u10, u11, u12, u13, u14, u15, u16, u17, u18, .slice Ab g.blocks.length cb, .int .i64 g.blocks.length, .int .i64 k, u22, u23, u24, u25, u26, u27, u28, u29, u30, u31, u32, u33, u34, u35, u36, u37, u38, u39, u40, u41, u42, u43, u44, u45, u46, u47, u48, u49, u50, u51, u52, u53, u54, u55, u56, u57, u58, u59, u60, u61, u62, u63, u64, u65, u66, u67, u68, u69, u70, u71, u72, u73, u74, u75, u76, u77, u78, u79, u80, u81, u82, u83, u84, u85, u86, u87, u88, u89, u90, u91, u92, u93, u94, u95, u96, u97, u98, u99, u100, u101, u102, u103, u104, u105, u106, u107, u108, u109, u110, u111, u112, u113], ds⟩
set_option maxRecDepth 100000 in
set_option maxHeartbeats 16000000 in
theorem blocks_any (W0 W : World) (o : OutNums) (vn vs : Value) (Ab : Option Addr) (cb : Nat) (g : GraphP) (I O : Sets) (base0 : Nat) (hs : Small g) (hI : ∀ b, Bounded g.nodes.length (I.at_ b)) (hlow : OutLow o base0) (hro : g.nodes.length = o.ro.length) (a : Act) (Q : Exit → Act → World → Prop)
    (h0 : AtBlock W0 o vn vs Ab cb g I O base0 a W)
    (hQ : ∀ (a' : Act) (W' : World) (ds : List Deferred), a'.defers = ds → OutMem o ⟨vn, .slice Ab g.blocks.length cb, vs⟩ g (listsTo g.nodes.length I g.blocks.length) (listsTo g.nodes.length O g.blocks.length) W' (meetAll g I O) → MarksOk base0 W' ds → base0 ≤ W'.heap.size → TurnB base0 W0 W' o.ro → Q (.exit 0) a' W') :
    Code.wp Try.prog (Code.loop spotsLoop) Q a W := by
  refine wp_loop (AtBlock W0 o vn vs Ab cb g I O base0) (fun a _ => g.blocks.length - (intOf (a.tmps.getD 21 undef)).toNat) h0 ?_
  rintro a w ⟨k, ds, u0, u1, u6, u7, u8, u9, u10, u11, u12, u13, u14, u15, u16, u17, u18, u22, u23, u24, u25, u26, u27, u28, u29, u30, u31, u32, u33, u34, u35, u36, u37, u38, u39, u40, u41, u42, u43, u44, u45, u46, u47, u48, u49, u50, u51, u52, u53, u54, u55, u56, u57, u58, u59, u60, u61, u62, u63, u64, u65, u66, u67, u68, u69, u70, u71, u72, u73, u74, u75, u76, u77, u78, u79, u80, u81, u82, u83, u84, u85, u86, u87, u88, u89, u90, u91, u92, u93, u94, u95, u96, u97, u98, u99, u100, u101, u102, u103, u104, u105, u106, u107, u108, u109, u110, u111, u112, u113, hk, hm, hds, hb0, ht, rfl⟩
  refine iter_any W0 w o vn vs Ab cb g I O base0 k ds hs hI hm hds hb0 hlow ht hro _ _ _ _ _ _ _ _ _ _ _ _ _ _ _ _ _ _ _ _ _ _ _ _ _ _ _ _ _ _ _ _ _ _ _ _ _ _ _ _ _ _ _ _ _ _ _ _ _ _ _ _ _ _ _ _ _ _ _ _ _ _ _ _ _ _ _ _ _ _ _ _ _ _ _ _ _ _ _ _ _ _ _ _ _ _ _ _ _ _ _ _ _ _ _ _ _ _ _ _ _ _ _ _ _ _ _ _ ?_ ?_
  · intro hge
    have e : k = g.blocks.length := by omega
    subst e
    exact hQ _ _ _ rfl hm hds hb0 ht
  · intro hlt x6 x7 x8 x9 x10 x22 x23 x24 x25 x26 x27 x28 x29 x30 x31 x32 x33 x34 x35 x36 x37 x38 x39 x40 x41 x42 x43 x44 x45 x46 x47 x48 x49 x50 x51 x52 x53 x110 x111 x112 x113 ds' W' h1 h2 h3 h4
    refine ⟨⟨k + 1, ds', _, _, _, _, _, _, _, _, _, _, _, _, _, _, _, _, _, _, _, _, _, _, _, _, _, _, _, _, _, _, _, _, _, _, _, _, _, _, _, _, _, _, _, _, _, _, _, _, _, _, _, _, _, _, _, _, _, _, _, _, _, _, _, _, _, _, _, _, _, _, _, _, _, _, _, _, _, _, _, _, _, _, _, _, _, _, _, _, _, _, _, _, _, _, _, _, _, _, _, _, _, _, _, _, _, _, _, by omega, h1, h2, h3, h4, rfl⟩, ?_⟩
    show g.blocks.length - (intOf (.int .i64 ((k : Int) + 1))).toNat < g.blocks.length - (intOf (.int .i64 (k : Int))).toNat
    simp only [intOf]
    omega

end Go.Proofs.Ytkmfdiboekoioaa
