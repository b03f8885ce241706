/- What alloc.spots calls: is a node there; the list put into a set; a list cloned; is a number in a list. Conditions: what each needs of memory. -/
import Derived.Test.YtkmfdiboekoioaaTold
namespace Go.Proofs.Ytkmfdiboekoioaa
open Go.RowKit

theorem there_any (w : World) (bx : Nat) (n : Int) (An : Option Addr) (N cn : Nat) (hbox : w.cell? ⟨bx, 3, none⟩ = some (.slice An N cn)) (t : Bool) (ht : t = true ↔ 0 ≤ n ∧ n < N) :
    Calls Try.prog 35 #[.int .i64 n, .pointer (some ⟨bx, 0, none⟩)] w (fun e w' => e = .returned (.bool t) ∧ w' = w) := by
  by_cases h0 : 0 ≤ n
  · by_cases h1 : n < (N : Int)
    · obtain rfl : t = true := ht.2 ⟨h0, h1⟩
      clear ht
      go_enter Try.func35, Try.ntmps35
      go_wp2_with fail
      go_ret
      exact ⟨rfl, rfl⟩
    · obtain rfl : t = false := Bool.eq_false_iff.2 fun h => h1 (ht.1 h).2
      clear ht
      go_enter Try.func35, Try.ntmps35
      go_wp2_with fail
      go_ret
      exact ⟨rfl, rfl⟩
  · obtain rfl : t = false := Bool.eq_false_iff.2 fun h => h0 (ht.1 h).1
    clear ht
    go_enter Try.func35, Try.ntmps35
    go_wp2_with fail
    go_ret
    exact ⟨rfl, rfl⟩

set_option maxHeartbeats 1000000 in
theorem putn_any (w : World) (r : Nat) (p : ISet) (v : Value) (l : List Int) (bx bt bn : Nat) (An : Option Addr) (N cn : Nat) (hset : SetM w r p) (hl : IntsV w w.heap.size v l) (hbox : w.cell? ⟨bx, 3, none⟩ = some (.slice An N cn)) (hN : N ≤ lim)
    (hth : w.cell? ⟨bt, 0, none⟩ = some (.func (.func 35) #[] #[.pointer (some ⟨bx, 0, none⟩)])) (hnow : w.cell? ⟨bn, 0, none⟩ = some (.map (some r))) :
    Calls Try.prog 36 #[v, .pointer (some ⟨bt, 0, none⟩), .pointer (some ⟨bn, 0, none⟩)] w (PutIs r (p.add N l) w) := by
  have HL := Lib.hid hl
  obtain ⟨A, c, rfl, _hc, hlc, hl⟩ := hl
  have hlim : l.length ≤ 17592186044416 := by unfold lim at hlc; omega
  have hNl : N ≤ 17592186044416 := by unfold lim at hN; omega
  have HW := Lib.hid hl; clear hl hN hlc
  have HSet := Lib.hid hset; clear hset
  have HBox := Lib.hid hbox; have HTh := Lib.hid hth; have HNow := Lib.hid hnow; clear hbox hth hnow
  go_enter Try.func36, Try.ntmps36
  go_wp2_with fail
  go_loopw [8] (fun i wr => ∃ k : Nat, k ≤ l.length ∧ i = .int .i64 k ∧ SetM wr r (p.add N (l.take k)) ∧ w.grownBy wr (some r)) (fun i _ => l.length - (intOf i).toNat)
  case atStart => exact ⟨0, Nat.zero_le _, rfl, by rw [List.take_zero, add_nil]; exact HSet.out, World.grownBy.refl _ _⟩
  case round =>
    obtain ⟨k, hk, rfl, hs, hg⟩ := hrel
    have hbox := grown_cell HSet.out hs hg HBox.out
    have hth := grown_cell HSet.out hs hg HTh.out
    have hnow := grown_cell HSet.out hs hg HNow.out
    have HBoxr := Lib.hid hbox
    have HS := Lib.hid hs
    have HG := Lib.hid hg
    by_cases hlt : k < l.length
    · obtain ⟨b, off, rfl, hbB, hp⟩ := HW.out (by omega)
      obtain ⟨x, hx⟩ := getE hlt
      have f0 := grown_cell HSet.out hs hg (hp k x hx)
      have HX := Lib.hid hx
      clear hp HW hx hs hg hbox
      by_cases h : 0 ≤ x ∧ x < (N : Int)
      · obtain ⟨w1, hrun, hm1, hg1, hs1⟩ := IMap.update (P := Try.prog) HS.out Try.underlying40 Try.underlying3 x 1
        have HM := Lib.hid hm1; have HH := Lib.hid h
        clear hm1 hs1 h
        go_wp2_with (first | (go_at_call 35; refine (there_any wr bx x An N cn HBoxr.out true ⟨fun _ => HH.out, fun _ => rfl⟩).mono ?_; rintro e w' ⟨rfl, rfl⟩) | fail)
        go_roundw
        case rel => exact ⟨k + 1, by omega, by go_num, by rw [add_yes p N l k x HX.out HH.out.1 HH.out.2]; have := HM.out; rwa [setF_put] at this, HG.out.trans hg1⟩
        case measure => simp [intOf]; omega
      · have HH := Lib.hid h
        clear h
        go_wp2_with (first | (go_at_call 35; refine (there_any wr bx x An N cn HBoxr.out false ⟨fun h => Bool.noConfusion h, fun h => absurd h HH.out⟩).mono ?_; rintro e w' ⟨rfl, rfl⟩) | fail)
        go_roundw
        case rel => exact ⟨k + 1, by omega, by go_num, by rw [add_no p N l k x HX.out HH.out]; exact HS.out, HG.out⟩
        case measure => simp [intOf]; omega
    · go_wp2_with fail
      go_end0
      exact ⟨rfl, by have := HS.out; rwa [List.take_of_length_le (by omega)] at this, HG.out⟩

/-- slices.Index over ints. -/
theorem index_any (w : World) (v : Value) (l : List Int) (x : Int) (hl : IntsV w w.heap.size v l) :
    Calls Try.prog 50 #[v, .int .i64 x] w (fun e w' => (∃ k : Int, e = .returned (.int .i64 k) ∧ (0 ≤ k ↔ x ∈ l) ∧ -1 ≤ k) ∧ w' = w) := by
  obtain ⟨A, c, rfl, _hc, hlc, hl⟩ := hl
  have hlim : l.length ≤ 17592186044416 := by unfold lim at hlc; omega
  have HW := Lib.hid hl; clear hl hlc
  go_enter Try.func50, Try.ntmps50
  go_wp2_with fail
  go_loopw [8] (fun i wr => ∃ k : Nat, k ≤ l.length ∧ i = .int .i64 k ∧ wr = w ∧ x ∉ l.take k) (fun i _ => l.length - (intOf i).toNat)
  case atStart => exact ⟨0, Nat.zero_le _, rfl, rfl, by simp⟩
  case round =>
    obtain ⟨k, hk, rfl, rfl, hno⟩ := hrel
    have HNo := Lib.hid hno; clear hno
    by_cases hlt : k < l.length
    · obtain ⟨b, off, rfl, hbB, hp⟩ := HW.out (by omega)
      obtain ⟨y, hy⟩ := getE hlt
      have f0 := hp k y hy
      have HY := Lib.hid hy
      clear hp HW hy
      by_cases hxy : x = y
      · subst hxy
        go_wp2_with fail
        go_ret
        exact ⟨⟨k, rfl, ⟨fun _ => List.mem_of_getElem? HY.out, fun _ => by omega⟩, by omega⟩, rfl⟩
      · have h1 : (x == y) = false := by simp [hxy]
        have h2 : (y == x) = false := by simp; exact fun e => hxy e.symm
        have HXY := Lib.hid hxy; clear hxy
        go_wp2_with fail
        go_roundw
        case rel => exact ⟨k + 1, by omega, by go_num, (by first | rfl | trivial), by rw [List.take_add_one, HY.out]; simp only [Option.toList_some, List.mem_append, List.mem_singleton, not_or]; exact ⟨HNo.out, HXY.out⟩⟩
        case measure => simp [intOf]; omega
    · go_wp2_with fail
      go_ret
      refine ⟨⟨-1, rfl, ⟨fun h => by omega, fun h => ?_⟩, by omega⟩, rfl⟩
      exact absurd (by rw [List.take_of_length_le (by omega)]; exact h) HNo.out

theorem contains_any (w : World) (v : Value) (l : List Int) (x : Int) (hl : IntsV w w.heap.size v l) (t : Bool) (ht : t = true ↔ x ∈ l) :
    Calls Try.prog 40 #[v, .int .i64 x] w (fun e w' => e = .returned (.bool t) ∧ w' = w) := by
  obtain ⟨A, c, rfl, _hc, hlc, _⟩ := id hl
  have HL := Lib.hid hl; clear hl hlc
  by_cases hx : x ∈ l
  · obtain rfl : t = true := ht.2 hx
    have HX := Lib.hid hx; clear hx ht
    go_enter Try.func40, Try.ntmps40
    go_wp2_with (first | (go_at_call 50; refine (index_any w _ l x HL.out).mono ?_; rintro e w' ⟨⟨k, rfl, hk, h1⟩, rfl⟩; have hk0 : 0 ≤ k := hk.2 HX.out; clear hk) | fail)
    go_ret
    exact ⟨by simp [hk0], rfl⟩
  · obtain rfl : t = false := Bool.eq_false_iff.2 fun h => hx (ht.1 h)
    have HX := Lib.hid hx; clear hx ht
    go_enter Try.func40, Try.ntmps40
    go_wp2_with (first | (go_at_call 50; refine (index_any w _ l x HL.out).mono ?_; rintro e w' ⟨⟨k, rfl, hk, h1⟩, rfl⟩; obtain rfl : k = -1 := (by have : ¬ 0 ≤ k := fun h => HX.out (hk.1 h); omega); clear hk h1) | fail)
    go_ret
    exact ⟨rfl, rfl⟩

theorem sliceNil0 (W : World) : (binOp .eql 29 (.slice none 0 0) (.slice none 0 0)).run Try.prog W = .ok (.bool true) W := by kernel_rfl
theorem sliceNil1 (a : Addr) (n c : Nat) (W : World) : (binOp .eql 29 (.slice (some a) n c) (.slice none 0 0)).run Try.prog W = .ok (.bool false) W := by kernel_rfl
set_option maxRecDepth 100000 in
/-- slices.Clone of ints that are owned. -/
theorem clone_ints (w : World) (v : Value) (l : List Int) (base : Nat) (hl : OwnInts w base v l) (hlim : l.length ≤ lim) :
    Calls Try.prog 38 #[v] w (fun e w' => ∃ u, e = .returned u ∧ OwnInts w' w.heap.size u l ∧ Below w.heap.size w w') := by
  have hq0 := sliceNil0
  have hq1 := sliceNil1
  obtain ⟨i0, hi, hz0, hz1, hz2⟩ := info_parts int_info
  have hl0 : l.length ≤ 17592186044416 := by unfold lim at hlim; omega
  rcases id hl.2 with ⟨rfl, h0⟩ | ⟨g, cap, cur, rfl, hb, hg, h1, h2, h3, h4⟩
  · obtain rfl : l = [] := List.eq_nil_of_length_eq_zero h0
    go_enter Try.func38, Try.ntmps38
    go_wp2_with fail
    go_ret
    exact ⟨_, rfl, OwnInts.nil _ _, Below.refl _ _⟩
  · have hcells := fun (W : World) (hW : Below w.heap.size w W) => (World.ownsRow.kept hl (grown_of_below hW none) (.inr (by simp [Value.ownBlock]))).cells (g := g) rfl
    have HL := Lib.hid hl; have HC := Lib.hid hcells
    clear hl h4 hb hg h3 hcells
    go_enter Try.func38, Try.ntmps38
    go_wp2_with (at_builtin; refine wpList_append_own_at _ rfl (.tmp 5) (.tmp 6) 29 rfl w.heap.size 3 i0 (.int .i64 0) 1 8 Try.underlying29 hi hz0 hz1 hz2 rfl (by decide) _ _ _ rfl (World.ownsRow_made w #[] 0 (Nat.le_refl _) (by unfold maxLen; omega) rfl) ⟨g, 0, none⟩ l.length cap (l.map (Value.int .i64)) rfl (by simp) (HC.out _ ((Below.refl _ _).alloc (Nat.le_refl _) _)) (ints_oneCell .i64 l) (by unfold maxLen; omega) (by omega) (by simp) ?_; intro v' w1 hown' hgrow _ _)
    go_ret
    refine ⟨_, rfl, ?_, ((Below.refl _ _).alloc (Nat.le_refl _) _).grown hgrow (by simp) (fun k e => by have e : some w.heap.size = some k := e; injection e with e; omega)⟩
    have := hown'
    rw [Nat.zero_add, List.nil_append] at this
    exact this
end Go.Proofs.Ytkmfdiboekoioaa
