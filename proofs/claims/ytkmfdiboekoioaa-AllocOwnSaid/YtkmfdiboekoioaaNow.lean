/- The loop of alloc.spots over what is live at a node: the node and all of these in a list, in whatever order. Conditions: that they are numbers of nodes, the node not among them. -/
import Derived.Test.YtkmfdiboekoioaaSpotMem
import Derived.Sort.LoopGhostIn
namespace Go.Proofs.Ytkmfdiboekoioaa
open Go.RowKit Go.Shelf
attribute [local go_sem] Oper.semAt_some
def roundsOf : Code → List Code
  | .loop c => roundsOf c
  | .seq a b => roundsOf a ++ roundsOf b
  | .block _ c => roundsOf c
  | .scope c => roundsOf c
  | .cond _ a b => roundsOf a ++ roundsOf b
  | .rangeFunc _ _ _ c => [c]
  | _ => []
noncomputable def spotRound : Code := ((Try.f19.body.map roundsOf).getD []).getD 0 .skip
noncomputable def nowLoop : Code := (loopsOf spotRound).getD 0 .skip

theorem own_ne_iter {w : World} {base it r : Nat} {v : Value} {l : List Int} {m : FMap} {left : Int → Bool} {cnt : Nat} (h : OwnInts w base v l) (hi : Iter w it r m left cnt) : v.ownBlock ≠ some it := by
  rcases h.2 with ⟨rfl, _⟩ | ⟨g, cap, cur, rfl, _, hgb, _⟩
  · simp [Value.ownBlock]
  · intro e'
    obtain rfl : g = it := by simpa [Value.ownBlock] using e'
    obtain ⟨es, clock, _, _, _, _, _, hi, _⟩ := hi
    rw [hgb] at hi; cases hi
theorem own_ne_map' {w : World} {base r : Nat} {v : Value} {l : List Int} {m : FMap} (h : OwnInts w base v l) (hm : IMap w r m) : v.ownBlock ≠ some r := by
  rcases own_ne_map h hm with e | e
  · rw [e]; simp
  · exact e

def NowAt (w : World) (base it rn : Nat) (p : ISet) (n : Int) (k : Nat) (v : Value) (wr : World) : Prop :=
  ∃ (left : Int → Bool) (ks : List Int), Iter wr it rn (setF p) left k ∧ OwnInts wr base v (n :: ks) ∧ (n :: ks).Nodup ∧ (∀ x, p x = true → left x = true ∨ x ∈ ks) ∧ (∀ x ∈ ks, p x = true ∧ left x = false) ∧ Below base w wr
def NowEnd (w : World) (base : Nat) (p : ISet) (n : Int) (v : Value) (w' : World) : Prop :=
  ∃ ks : List Int, OwnInts w' base v (n :: ks) ∧ (n :: ks).Nodup ∧ (∀ x, x ∈ ks ↔ p x = true) ∧ Below base w w'
set_option maxRecDepth 100000 in
set_option maxHeartbeats 4000000 in
theorem nowLoop_any (lr m N : Nat) (w : World) (base it rn cnt : Nat) (p : ISet) (n : Int) (v0 : Value) (hN : N ≤ 5000) (hn : 0 ≤ n ∧ n < (N : Int)) (hb : Bounded N p) (hpn : p n = false) (hbase : base ≤ w.heap.size) (hit0 : base ≤ it)
    (hi : Iter w it rn (setF p) (fun x => (setF p x).isSome) cnt) (hv : OwnInts w base v0 [n])
    (u0 u1 u2 u3 u4 u5 u6 u7 u8 u9 u10 u11 u12 u14 u15 u16 u17 u18 u19 u20 u21 u22 u23 u24 u25 u26 u27 u28 u29 u30 u31 u32 u33 u34 u35 u36 u37 u38 u39 u40 u41 u42 u43 u44 u45 u46 u47 u48 u49 u50 u51 u52 u53 u54 u55 u56 u57 u58 u59 u60 u61 u62 u63 u64 u65 u66 u67 u68 u69 u70 u71 u72 u73 u74 u75 u76 u77 u78 u79 u81 u82 u83 u84 u85 u86 u87 u88 u89 u90 u91 u92 u93 u94 u95 u96 u97 u98 u99 u100 u101 u102 u103 u104 u105 u106 u107 u108 u109 u110 u111 u112 u113 : Value) (Q : Exit → Act → World → Prop)
    (hexit : ∀ (x13 x14 x81 x82 x83 x84 x85 x86 x87 x88 : Value) (w' : World), NowEnd w base p n x13 w' → Q (.exit 4) ⟨#[u0, u1, u2, u3, u4, u5, u6, u7, u8, u9, u10, u11, u12, x13, x14, u15, u16, u17, u18, u19, u20, u21, u22, u23, u24, u25, u26, u27, u28, u29, u30, u31, u32, u33, u34, u35, u36, u37, u38, u39, u40, u41, u42, u43, u44, u45, u46, u47, u48, u49, u50, u51, u52, u53, u54, u55, u56, u57, u58, u59, u60, u61, u62, u63, u64, u65, u66, u67, u68, u69, u70, u71, u72, u73, u74, u75, u76, u77, u78, u79, .pointer (some ⟨it, 0, none⟩), x81, x82, x83, x84, x85, x86, x87, x88, u89, u90, u91, u92, u93, u94, u95, u96, u97, u98, u99, u100, u101, u102, u103, u104, u105, u106, u107, u108, u109, u110, u111, u112, u113], []⟩ w') :
    Code.wpIn (Fence.wide.inRound lr) m Try.prog (Code.loop nowLoop) Q ⟨#[u0, u1, u2, u3, u4, u5, u6, u7, u8, u9, u10, u11, u12, v0, u14, u15, u16, u17, u18, u19, u20, u21, u22, u23, u24, u25, u26, u27, u28, u29, u30, u31, u32, u33, u34, u35, u36, u37, u38, u39, u40, u41, u42, u43, u44, u45, u46, u47, u48, u49, u50, u51, u52, u53, u54, u55, u56, u57, u58, u59, u60, u61, u62, u63, u64, u65, u66, u67, u68, u69, u70, u71, u72, u73, u74, u75, u76, u77, u78, u79, .pointer (some ⟨it, 0, none⟩), u81, u82, u83, u84, u85, u86, u87, u88, u89, u90, u91, u92, u93, u94, u95, u96, u97, u98, u99, u100, u101, u102, u103, u104, u105, u106, u107, u108, u109, u110, u111, u112, u113], []⟩ w := by
  have H0 : Hid (NowAt w base it rn p n cnt v0 w) := Lib.hid ⟨_, [], hi, hv, by simp, fun x hx => .inl (by rw [setF_some]; exact hx), fun x hx => by simp at hx, Below.refl _ _⟩
  have HB := Lib.hid hb; have hpn0 := Lib.hid hpn
  obtain ⟨i0, hinf, hz0, hz1, hz2⟩ := info_parts int_info
  clear hi hv hb hpn
  conv => arg 4; arg 1; whnf
  dsimp only
  gi_loopg [13] cnt (fun k v wr => NowAt w base it rn p n k v wr)
  case atStart => exact H0.out
  case round =>
    obtain ⟨left, ks, hit, hown, hnd, hall, hin, hbe⟩ := hrel
    have hlen : (n :: ks).length ≤ N := bounded_len hnd (fun x hx => by
      rcases List.mem_cons.1 hx with rfl | hx
      · exact hn
      · exact HB.out x (hin x hx).1)
    rcases Iter.next (P := Try.prog) hit 0 with ⟨hdone, hrun⟩ | ⟨x, y, w2, cnt', hlx, hmx, hrun, hit2, hlt, hg2, hs, hent⟩
    · have HE : Hid (NowEnd w base p n _ wr) := Lib.hid ⟨ks, hown, hnd, fun x => ⟨fun hx => (hin x hx).1, fun hx => (hall x hx).resolve_left (by rw [hdone x]; simp)⟩, hbe⟩
      clear hit hown hall hin hbe hlen hnd hdone
      gi_wp2_with fail
      exact HE.out
    · obtain ⟨hpx, rfl⟩ := setF_val hmx
      have hown2 : OwnInts w2 base u13 (n :: ks) := World.ownsRow.kept hown hg2 (.inr (own_ne_iter hown hit))
      have hbe2 : Below base w w2 := hbe.grown hg2 (Nat.le_trans hbase hbe.size) (fun k e => by injection e with e; omega)
      have HIt := Lib.hid hit2; have HOwn := Lib.hid hown2; have HBe := Lib.hid hbe2; have HIn := Lib.hid hin; have HAll := Lib.hid hall; have HNd := Lib.hid hnd; have HPx := Lib.hid hpx; have HLx := Lib.hid hlx
      have hsz : base ≤ w2.heap.size := Nat.le_trans hbase hbe2.size
      have hlen2 : ks.length + 1 ≤ N := by simpa using hlen
      clear hit hown hall hin hbe hlen hnd hit2 hown2 hbe2 hpx hlx hmx hg2 hs
      gi_wp2_with (gi_at_builtin; refine wpListIn_append_own _ rfl _ _ 29 rfl base 3 i0 (.int .i64 0) 1 8 Try.underlying29 hinf hz0 hz1 hz2 rfl (by decide) _ _ _ rfl (World.ownsRow.alloc HOwn.out _) ⟨w2.heap.size, 0, none⟩ 1 1 [.int .i64 x] rfl rfl (cell_one_new _ _ _) (by simp [Value.oneCell']) (by simp only [List.length_cons]; unfold maxLen; omega) (by simp only [List.length_cons]; omega) (by simp; omega) ?_; intro v' w1 hown' hgrow _)
      gi_roundg cnt'
      case measure => exact hlt
      case rel =>
        have h1 : OwnInts w1 base v' ((n :: ks) ++ [x]) := OwnInts.snoc hown'
        have hne1 : some rn ≠ u13.ownBlock := fun e => own_ne_map' HOwn.out HIt.out.map e.symm
        have hne2 : some it ≠ u13.ownBlock := fun e => own_ne_iter HOwn.out HIt.out e.symm
        refine ⟨_, ks ++ [x], (HIt.out.below ((Below.refl _ _).alloc (Nat.le_refl _) _) HIt.out.map.lt HIt.out.lt).grown hgrow hne1 hne2, h1, ?_, fun z hz => ?_, fun z hz => ?_, (HBe.out.alloc hsz _).grown hgrow (by simp; omega) (fun k e => (World.ownsRow.lt HOwn.out k e).1)⟩
        · have hx0 : x ∉ n :: ks := fun hm => by
            rcases List.mem_cons.1 hm with e | hm
            · subst e; exact absurd HPx.out (by rw [hpn0.out]; simp)
            · have := (HIn.out x hm).2
              rw [HLx.out] at this; cases this
          show ((n :: ks) ++ [x]).Nodup
          rw [List.nodup_append]
          refine ⟨HNd.out, by simp, fun a ha b hb' => ?_⟩
          simp only [List.mem_singleton] at hb'
          subst hb'
          exact fun e => hx0 (e ▸ ha)
        · rcases HAll.out z hz with h | h
          · by_cases e : z = x
            · exact .inr (by simp [e])
            · exact .inl (by simp [h, e])
          · exact .inr (by simp [h])
        · rcases List.mem_append.1 hz with h | h
          · exact ⟨(HIn.out z h).1, by simp [(HIn.out z h).2]⟩
          · simp only [List.mem_singleton] at h
            subst h
            exact ⟨HPx.out, by simp⟩
end Go.Proofs.Ytkmfdiboekoioaa
