/- The walks of maps.Clone and maps.Equal at sets of numbers. No condition but that the maps are such sets. -/
import Derived.Test.YtkmfdiboekoioaaLive3
import Derived.Shelf.SlMaps.Clone
namespace Go.Proofs.Ytkmfdiboekoioaa
open Go.RowKit Go.MapKept

def CloneIs (p : ISet) (w : World) (e : Ending) (w' : World) : Prop := e = .returned (.map (some w.heap.size)) ∧ SetM w' w.heap.size p ∧ Below w.heap.size w w' ∧ w'.heap.size = w.heap.size + 1
set_option maxHeartbeats 1000000 in
theorem clone_any (b : Nat) (p : ISet) (w : World) (hset : SetM w b p) : Calls Try.prog 47 #[.map (some b)] w (CloneIs p w) := by
  obtain ⟨es, clock, hb, hm⟩ := hset
  refine (AnyW.maps_Clone Try.cloneA b es clock w hb).mono ?_
  rintro e w' ⟨rfl, rfl⟩
  exact ⟨rfl, ⟨es, clock, heap_alloc_new w _, hm⟩, (Below.refl _ _).alloc (Nat.le_refl _) _, by simp⟩

theorem setF_some (p : ISet) (x : Int) : (setF p x).isSome = p x := by unfold setF; cases p x <;> rfl
theorem setF_val {p : ISet} {x y : Int} (h : setF p x = some y) : p x = true ∧ y = 1 := by
  unfold setF at h
  cases q : p x
  · rw [q] at h; simp at h
  · rw [q] at h; simp at h; exact ⟨rfl, h.symm⟩
theorem setF_getD (p : ISet) (x : Int) (h : p x = true) : (setF p x).getD 0 = 1 := by unfold setF; rw [h]; rfl

def EqualIs (p q : ISet) (w : World) (e : Ending) (w' : World) : Prop := ∃ b : Bool, e = .returned (.bool b) ∧ (b = true ↔ p = q) ∧ Below w.heap.size w w'
set_option maxRecDepth 100000 in
set_option maxHeartbeats 2000000 in
theorem equal_any (r1 r2 : Nat) (p q : ISet) (w : World) (h1 : SetM w r1 p) (h2 : SetM w r2 q) : Calls Try.prog 48 #[.map (some r1), .map (some r2)] w (EqualIs p q w) := by
  obtain ⟨n1, hn1, hl1⟩ := IMap.len (P := Try.prog) h1 Try.underlying79
  obtain ⟨n2, hn2, hl2⟩ := IMap.len (P := Try.prog) h2 Try.underlying79
  have L1 := h1.lt; have L2 := h2.lt
  have HN1 := Lib.hid hn1; have HN2 := Lib.hid hn2; clear hn1 hn2
  have H1 := Lib.hid h1; have H2 := Lib.hid h2; clear h1 h2
  by_cases hn : n1 = n2
  · subst hn
    have hnb : (((n1 : Nat) : Int) != (n1 : Int)) = false := by simp
    obtain ⟨cnt, w1, hrun, hit, hg, hsz⟩ := IMap.range (P := Try.prog) H1.out Try.underlying79
    have HIt := Lib.hid hit; have HG := Lib.hid hg; have HSz := Lib.hid hsz
    clear hit hg hsz
    have h21 : SetM w1 r2 q := IMap.grown H2.out HG.out (by simp)
    have hb1 : Below w.heap.size w w1 := (Below.refl _ _).grown HG.out (Nat.le_refl _) (by simp)
    have H21 := Lib.hid h21; have HB1 := Lib.hid hb1; clear h21 hb1
    go_enter Try.func48, Try.ntmps48
    go_wp2_with fail
    clear hrun hl1 hl2
    go_loopg [5] cnt (fun k _ wr => ∃ left, Iter wr w.heap.size r1 (setF p) left k ∧ SetM wr r2 q ∧ Hid (∀ x, p x = true → left x = false → q x = true) ∧ Below w.heap.size w wr)
    case atStart => exact ⟨_, HIt.out, H21.out, Lib.hid (fun x h h' => by rw [setF_some, h] at h'; cases h'), HB1.out⟩
    case round =>
      obtain ⟨left, hit, hs2, hall, hb⟩ := hrel
      rcases Iter.next (P := Try.prog) hit 0 with ⟨hdone, hrun⟩ | ⟨x, y, w2, cnt', hlx, hmx, hrun, hit2, hlt, hg2, hs, hent⟩
      · have HD := Lib.hid hdone
        have HB := Lib.hid hb
        clear hdone hit hs2 hb
        go_wp2_with fail
        go_ret
        refine ⟨true, rfl, ⟨fun _ => ?_, fun _ => rfl⟩, HB.out⟩
        have hsub : ∀ x, (setF p x).isSome = true → (setF q x).isSome = true := fun x hx => by
          rw [setF_some] at hx ⊢
          exact hall.out x hx (HD.out x)
        funext x
        cases hp : p x
        · cases hq : q x
          · rfl
          · have := CardIs.back HN1.out HN2.out hsub x (by rw [setF_some]; exact hq)
            rw [setF_some, hp] at this; cases this
        · have := hsub x (by rw [setF_some]; exact hp)
          rw [setF_some] at this
          exact this.symm
      · obtain ⟨hpx, rfl⟩ := setF_val hmx
        have hs22 : SetM w2 r2 q := IMap.grown hs2 hg2 (by simp; omega)
        have hb2 : Below w.heap.size w w2 := hb.grown hg2 hb.size (by simp)
        have HIt2 := Lib.hid hit2; have HS22 := Lib.hid hs22; have HB2 := Lib.hid hb2; have HPx := Lib.hid hpx
        have hz : (zeroValue 3).run Try.prog w2 = .ok (.int .i64 0) w2 := by kernel_rfl
        have hlook := (IMap.look (P := Try.prog) HS22.out Try.underlying79 Try.underlying3 hz x).2
        rw [setF_some] at hlook
        clear hit hs2 hb hit2 hs22 hb2 hpx hmx hlx hg2 hs hz
        by_cases hq : q x = true
        · rw [hq, setF_getD q x hq] at hlook
          have HQ := Lib.hid hq; clear hq
          go_wp2_with fail
          go_roundg cnt'
          case measure => exact hlt
          case rel => exact ⟨_, HIt2.out, HS22.out, Lib.hid (fun z hz hz' => by
            by_cases e : z = x
            · rw [e]; exact HQ.out
            · have hb : (z == x) = false := by simp [e]
              rw [hb] at hz'
              exact hall.out z hz (by simpa using hz')), HB2.out⟩
        · have hq' : q x = false := by simpa using hq
          rw [hq'] at hlook
          have HQ := Lib.hid hq'; clear hq hq'
          have hg0 : ∃ c, (setF q x).getD 0 = c := ⟨_, rfl⟩
          obtain ⟨c, hc⟩ := hg0
          rw [hc] at hlook
          clear hc
          go_wp2_with fail
          go_ret
          refine ⟨false, rfl, ⟨fun h => Bool.noConfusion h, fun h => ?_⟩, HB2.out⟩
          have := HPx.out
          rw [h, HQ.out] at this
          exact this
  · have hnb : (((n1 : Nat) : Int) != (n2 : Int)) = true := by simp; omega
    have HNe := Lib.hid hn; clear hn
    go_enter Try.func48, Try.ntmps48
    go_wp2_with fail
    go_ret
    refine ⟨false, rfl, ⟨fun h => Bool.noConfusion h, fun h => ?_⟩, Below.refl _ _⟩
    subst h
    exact absurd (CardIs.one HN1.out HN2.out) HNe.out
end Go.Proofs.Ytkmfdiboekoioaa
