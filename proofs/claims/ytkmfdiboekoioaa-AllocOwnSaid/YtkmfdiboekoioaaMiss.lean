/- What alloc.sound asks of numbers: are they nodes, slots, blocks, states. Conditions: the graph's box holds what it should. -/
import Derived.Test.YtkmfdiboekoioaaOrder2
namespace Go.Proofs.Ytkmfdiboekoioaa
open Go.RowKit

theorem isNode_any (w : World) (bx : Nat) (n : Int) (An : Option Addr) (N cn : Nat) (hbox : w.cell? ⟨bx, 3, none⟩ = some (.slice An N cn)) (t : Bool) (ht : t = true ↔ 0 ≤ n ∧ n < (N : Int)) :
    Calls Try.prog 24 #[.int .i64 n, .pointer (some ⟨bx, 0, none⟩)] w (fun e w' => e = .returned (.bool t) ∧ w' = w) := by
  by_cases h0 : 0 ≤ n
  · by_cases h1 : n < (N : Int)
    · obtain rfl : t = true := ht.2 ⟨h0, h1⟩
      clear ht
      go_enter Try.func24, Try.ntmps24
      go_wp2_with fail
      go_ret
      exact ⟨rfl, rfl⟩
    · obtain rfl : t = false := Bool.eq_false_iff.2 fun h => h1 (ht.1 h).2
      clear ht
      go_enter Try.func24, Try.ntmps24
      go_wp2_with fail
      go_ret
      exact ⟨rfl, rfl⟩
  · obtain rfl : t = false := Bool.eq_false_iff.2 fun h => h0 (ht.1 h).1
    clear ht
    go_enter Try.func24, Try.ntmps24
    go_wp2_with fail
    go_ret
    exact ⟨rfl, rfl⟩

theorem isSlot_any (w : World) (bx : Nat) (n : Int) (An : Option Addr) (N cn : Nat) (hbox : w.cell? ⟨bx, 3, none⟩ = some (.slice An N cn)) (t : Bool) (ht : t = true ↔ -1 ≤ n ∧ n < (N : Int)) :
    Calls Try.prog 25 #[.int .i64 n, .pointer (some ⟨bx, 0, none⟩)] w (fun e w' => e = .returned (.bool t) ∧ w' = w) := by
  by_cases h0 : -1 ≤ n
  · by_cases h1 : n < (N : Int)
    · obtain rfl : t = true := ht.2 ⟨h0, h1⟩
      clear ht
      go_enter Try.func25, Try.ntmps25
      go_wp2_with fail
      go_ret
      exact ⟨rfl, rfl⟩
    · obtain rfl : t = false := Bool.eq_false_iff.2 fun h => h1 (ht.1 h).2
      clear ht
      go_enter Try.func25, Try.ntmps25
      go_wp2_with fail
      go_ret
      exact ⟨rfl, rfl⟩
  · obtain rfl : t = false := Bool.eq_false_iff.2 fun h => h0 (ht.1 h).1
    clear ht
    go_enter Try.func25, Try.ntmps25
    go_wp2_with fail
    go_ret
    exact ⟨rfl, rfl⟩

theorem isState_any (w : World) (bx : Nat) (n : Int) (An : Option Addr) (N cn : Nat) (hbox : w.cell? ⟨bx, 5, none⟩ = some (.slice An N cn)) (t : Bool) (ht : t = true ↔ -1 ≤ n ∧ n < (N : Int)) :
    Calls Try.prog 28 #[.int .i64 n, .pointer (some ⟨bx, 0, none⟩)] w (fun e w' => e = .returned (.bool t) ∧ w' = w) := by
  by_cases h0 : -1 ≤ n
  · by_cases h1 : n < (N : Int)
    · obtain rfl : t = true := ht.2 ⟨h0, h1⟩
      clear ht
      go_enter Try.func28, Try.ntmps28
      go_wp2_with fail
      go_ret
      exact ⟨rfl, rfl⟩
    · obtain rfl : t = false := Bool.eq_false_iff.2 fun h => h1 (ht.1 h).2
      clear ht
      go_enter Try.func28, Try.ntmps28
      go_wp2_with fail
      go_ret
      exact ⟨rfl, rfl⟩
  · obtain rfl : t = false := Bool.eq_false_iff.2 fun h => h0 (ht.1 h).1
    clear ht
    go_enter Try.func28, Try.ntmps28
    go_wp2_with fail
    go_ret
    exact ⟨rfl, rfl⟩

theorem isBlock_any (w : World) (bx : Nat) (n : Int) (An : Option Addr) (N cn : Nat) (hbox : w.cell? ⟨bx, 4, none⟩ = some (.slice An N cn)) (t : Bool) (ht : t = true ↔ 0 ≤ n ∧ n < (N : Int)) :
    Calls Try.prog 29 #[.int .i64 n, .pointer (some ⟨bx, 0, none⟩)] w (fun e w' => e = .returned (.bool t) ∧ w' = w) := by
  by_cases h0 : 0 ≤ n
  · by_cases h1 : n < (N : Int)
    · obtain rfl : t = true := ht.2 ⟨h0, h1⟩
      clear ht
      go_enter Try.func29, Try.ntmps29
      go_wp2_with fail
      go_ret
      exact ⟨rfl, rfl⟩
    · obtain rfl : t = false := Bool.eq_false_iff.2 fun h => h1 (ht.1 h).2
      clear ht
      go_enter Try.func29, Try.ntmps29
      go_wp2_with fail
      go_ret
      exact ⟨rfl, rfl⟩
  · obtain rfl : t = false := Bool.eq_false_iff.2 fun h => h0 (ht.1 h).1
    clear ht
    go_enter Try.func29, Try.ntmps29
    go_wp2_with fail
    go_ret
    exact ⟨rfl, rfl⟩

theorem isNode_not (w : World) (bx bh : Nat) (n : Int) (An : Option Addr) (N cn : Nat) (hbox : w.cell? ⟨bx, 3, none⟩ = some (.slice An N cn)) (hh : w.cell? ⟨bh, 0, none⟩ = some (.func (.func 24) #[] #[.pointer (some ⟨bx, 0, none⟩)])) (t : Bool) (ht : t = true ↔ ¬ (0 ≤ n ∧ n < (N : Int))) :
    Calls Try.prog 27 #[.int .i64 n, .pointer (some ⟨bh, 0, none⟩)] w (fun e w' => e = .returned (.bool t) ∧ w' = w) := by
  have hn : (!t) = true ↔ 0 ≤ n ∧ n < (N : Int) := by cases t <;> simp at ht ⊢ <;> omega
  have HN := Lib.hid hn; have HB := Lib.hid hbox
  obtain ⟨s, hs⟩ : ∃ s : Bool, s = !t := ⟨_, rfl⟩
  have HS := Lib.hid hs
  clear hn hbox ht hs
  go_enter Try.func27, Try.ntmps27
  go_wp2_with (go_at_call 24; refine (isNode_any w bx n An N cn HB.out s (by rw [HS.out]; exact HN.out)).mono ?_; rintro e w' ⟨rfl, hw'⟩; have hw2 := hw'.symm; subst hw2)
  go_ret
  exact ⟨by rw [HS.out]; simp, rfl⟩
theorem isNode_index (w : World) (bx bh : Nat) (v : Value) (l : List Int) (An : Option Addr) (N cn : Nat) (hl : IntsV w w.heap.size v l) (hbox : w.cell? ⟨bx, 3, none⟩ = some (.slice An N cn)) (hh : w.cell? ⟨bh, 0, none⟩ = some (.func (.func 24) #[] #[.pointer (some ⟨bx, 0, none⟩)])) :
    Calls Try.prog 18 #[v, .func (.func 27) #[] #[.pointer (some ⟨bh, 0, none⟩)]] w (fun e w' => (∃ k : Int, e = .returned (.int .i64 k) ∧ (0 ≤ k ↔ ∃ x ∈ l, ¬ (0 ≤ x ∧ x < (N : Int))) ∧ -1 ≤ k) ∧ w' = w) := by
  obtain ⟨A, c, rfl, _hc, hlc, hl⟩ := hl
  have hlim : l.length ≤ 17592186044416 := by unfold lim at hlc; omega
  have HW := Lib.hid hl; have HB := Lib.hid hbox; have HH := Lib.hid hh
  clear hl hlc hbox hh
  go_enter Try.func18, Try.ntmps18
  go_wp2_with fail
  go_loopw [8] (fun i wr => ∃ k : Nat, k ≤ l.length ∧ i = .int .i64 k ∧ wr = w ∧ ∀ x ∈ l.take k, 0 ≤ x ∧ x < (N : Int)) (fun i _ => l.length - (intOf i).toNat)
  case atStart => exact ⟨0, Nat.zero_le _, rfl, rfl, by simp⟩
  case round =>
    obtain ⟨k, hk, rfl, rfl, hno⟩ := hrel
    have HNo := Lib.hid hno; clear hno
    by_cases hlt : k < l.length
    · obtain ⟨b, off, rfl, hbB, hp⟩ := HW.out (by omega)
      obtain ⟨y, hy⟩ := getE hlt
      have f0 := hp k y hy
      have HY := Lib.hid hy
      clear hp HW hy
      by_cases hxy : 0 ≤ y ∧ y < (N : Int)
      · have HXY := Lib.hid hxy; clear hxy
        go_wp2_with (go_at_call 27; refine (isNode_not _ bx bh y An N cn HB.out HH.out false ⟨(fun h => by cases h), fun h => absurd HXY.out h⟩).mono ?_; rintro e w' ⟨rfl, hw'⟩; have hw2 := hw'.symm; subst hw2)
        go_roundw
        case rel => exact ⟨k + 1, by omega, by go_num, (by first | rfl | trivial), fun x hx => by
          rw [List.take_add_one, HY.out] at hx
          rcases List.mem_append.1 hx with hx | hx
          · exact HNo.out x hx
          · simp only [Option.toList_some, List.mem_singleton] at hx; subst hx; exact HXY.out⟩
        case measure => simp [intOf]; omega
      · have HXY : Hid ((0 ≤ y ∧ y < (N : Int)) → False) := Lib.hid hxy; clear hxy
        go_wp2_with (go_at_call 27; refine (isNode_not _ bx bh y An N cn HB.out HH.out true ⟨fun _ => HXY.out, fun _ => rfl⟩).mono ?_; rintro e w' ⟨rfl, hw'⟩; have hw2 := hw'.symm; subst hw2)
        go_ret
        exact ⟨⟨k, rfl, ⟨fun _ => ⟨y, List.mem_of_getElem? HY.out, HXY.out⟩, fun _ => by omega⟩, by omega⟩, rfl⟩
    · go_wp2_with fail
      go_ret
      refine ⟨⟨-1, rfl, ⟨fun h => by omega, fun ⟨x, hx, h⟩ => ?_⟩, by omega⟩, rfl⟩
      exact absurd (HNo.out x (by rw [List.take_of_length_le (by omega)]; exact hx)) h
theorem isNode_contains (w : World) (bx bh : Nat) (v : Value) (l : List Int) (An : Option Addr) (N cn : Nat) (hl : IntsV w w.heap.size v l) (hbox : w.cell? ⟨bx, 3, none⟩ = some (.slice An N cn)) (hh : w.cell? ⟨bh, 0, none⟩ = some (.func (.func 24) #[] #[.pointer (some ⟨bx, 0, none⟩)])) (t : Bool) (ht : t = true ↔ ∃ x ∈ l, ¬ (0 ≤ x ∧ x < (N : Int))) :
    Calls Try.prog 10 #[v, .func (.func 27) #[] #[.pointer (some ⟨bh, 0, none⟩)]] w (fun e w' => e = .returned (.bool t) ∧ w' = w) := by
  obtain ⟨A, c, rfl, _hc, hlc, _⟩ := id hl
  have HL := Lib.hid hl; have HB := Lib.hid hbox; have HH := Lib.hid hh
  clear hl hlc hbox hh
  cases t with
  | true =>
    have HX := Lib.hid (ht.1 rfl); clear ht
    go_enter Try.func10, Try.ntmps10
    go_wp2_with (go_at_call 18; refine (isNode_index w bx bh _ l An N cn HL.out HB.out HH.out).mono ?_; rintro e w' ⟨⟨k, rfl, hk, h1⟩, rfl⟩; have hk0 : 0 ≤ k := hk.2 HX.out; clear hk)
    go_ret
    exact ⟨by simp [hk0], rfl⟩
  | false =>
    have HX : Hid ((∃ x ∈ l, ¬ (0 ≤ x ∧ x < (N : Int))) → False) := Lib.hid (fun h => by have := ht.2 h; cases this)
    clear ht
    go_enter Try.func10, Try.ntmps10
    go_wp2_with (go_at_call 18; refine (isNode_index w bx bh _ l An N cn HL.out HB.out HH.out).mono ?_; rintro e w' ⟨⟨k, rfl, hk, h1⟩, rfl⟩; obtain rfl : k = -1 := (by have : ¬ 0 ≤ k := fun h => HX.out (hk.1 h); omega); clear hk h1)
    go_ret
    exact ⟨rfl, rfl⟩
theorem isNode_miss (w : World) (bx : Nat) (v : Value) (l : List Int) (An : Option Addr) (N cn : Nat) (hl : IntsV w w.heap.size v l) (hbox : w.cell? ⟨bx, 3, none⟩ = some (.slice An N cn)) (t : Bool) (ht : t = true ↔ ∃ x ∈ l, ¬ (0 ≤ x ∧ x < (N : Int))) :
    Calls Try.prog 26 #[v, .func (.func 24) #[] #[.pointer (some ⟨bx, 0, none⟩)]] w (fun e w' => e = .returned (.bool t) ∧ Below w.heap.size w w') := by
  have hl2 := hl.later ((Below.refl w.heap.size w).alloc (Nat.le_refl _) (.cells #[.func (.func 24) #[] #[.pointer (some ⟨bx, 0, none⟩)]] 37)) (Nat.le_refl _)
  have hb2 : (w.alloc (.cells #[.func (.func 24) #[] #[.pointer (some ⟨bx, 0, none⟩)]] 37)).cell? ⟨bx, 3, none⟩ = some (.slice An N cn) := (World.grownBy_alloc w _ none).cell hbox (by simp)
  have hh2 : (w.alloc (.cells #[.func (.func 24) #[] #[.pointer (some ⟨bx, 0, none⟩)]] 37)).cell? ⟨w.heap.size, 0, none⟩ = some (.func (.func 24) #[] #[.pointer (some ⟨bx, 0, none⟩)]) := (Blk.new w _ _).cell 0
  have H1 := Lib.hid hl2; have H2 := Lib.hid hb2; have H3 := Lib.hid hh2; have HT := Lib.hid ht
  obtain ⟨A, c, rfl, _⟩ := hl
  clear hl2 hb2 hh2 hbox ht
  go_enter Try.func26, Try.ntmps26
  go_wp2_with (go_at_call 10; refine (isNode_contains _ bx w.heap.size _ l An N cn H1.out H2.out H3.out t HT.out).mono ?_; rintro e w' ⟨rfl, rfl⟩)
  go_ret
  exact ⟨rfl, (Below.refl _ _).alloc (Nat.le_refl _) _⟩

theorem isSlot_not (w : World) (bx bh : Nat) (n : Int) (An : Option Addr) (N cn : Nat) (hbox : w.cell? ⟨bx, 3, none⟩ = some (.slice An N cn)) (hh : w.cell? ⟨bh, 0, none⟩ = some (.func (.func 25) #[] #[.pointer (some ⟨bx, 0, none⟩)])) (t : Bool) (ht : t = true ↔ ¬ (-1 ≤ n ∧ n < (N : Int))) :
    Calls Try.prog 27 #[.int .i64 n, .pointer (some ⟨bh, 0, none⟩)] w (fun e w' => e = .returned (.bool t) ∧ w' = w) := by
  have hn : (!t) = true ↔ -1 ≤ n ∧ n < (N : Int) := by cases t <;> simp at ht ⊢ <;> omega
  have HN := Lib.hid hn; have HB := Lib.hid hbox
  obtain ⟨s, hs⟩ : ∃ s : Bool, s = !t := ⟨_, rfl⟩
  have HS := Lib.hid hs
  clear hn hbox ht hs
  go_enter Try.func27, Try.ntmps27
  go_wp2_with (go_at_call 25; refine (isSlot_any w bx n An N cn HB.out s (by rw [HS.out]; exact HN.out)).mono ?_; rintro e w' ⟨rfl, hw'⟩; have hw2 := hw'.symm; subst hw2)
  go_ret
  exact ⟨by rw [HS.out]; simp, rfl⟩
theorem isSlot_index (w : World) (bx bh : Nat) (v : Value) (l : List Int) (An : Option Addr) (N cn : Nat) (hl : IntsV w w.heap.size v l) (hbox : w.cell? ⟨bx, 3, none⟩ = some (.slice An N cn)) (hh : w.cell? ⟨bh, 0, none⟩ = some (.func (.func 25) #[] #[.pointer (some ⟨bx, 0, none⟩)])) :
    Calls Try.prog 18 #[v, .func (.func 27) #[] #[.pointer (some ⟨bh, 0, none⟩)]] w (fun e w' => (∃ k : Int, e = .returned (.int .i64 k) ∧ (0 ≤ k ↔ ∃ x ∈ l, ¬ (-1 ≤ x ∧ x < (N : Int))) ∧ -1 ≤ k) ∧ w' = w) := by
  obtain ⟨A, c, rfl, _hc, hlc, hl⟩ := hl
  have hlim : l.length ≤ 17592186044416 := by unfold lim at hlc; omega
  have HW := Lib.hid hl; have HB := Lib.hid hbox; have HH := Lib.hid hh
  clear hl hlc hbox hh
  go_enter Try.func18, Try.ntmps18
  go_wp2_with fail
  go_loopw [8] (fun i wr => ∃ k : Nat, k ≤ l.length ∧ i = .int .i64 k ∧ wr = w ∧ ∀ x ∈ l.take k, -1 ≤ x ∧ x < (N : Int)) (fun i _ => l.length - (intOf i).toNat)
  case atStart => exact ⟨0, Nat.zero_le _, rfl, rfl, by simp⟩
  case round =>
    obtain ⟨k, hk, rfl, rfl, hno⟩ := hrel
    have HNo := Lib.hid hno; clear hno
    by_cases hlt : k < l.length
    · obtain ⟨b, off, rfl, hbB, hp⟩ := HW.out (by omega)
      obtain ⟨y, hy⟩ := getE hlt
      have f0 := hp k y hy
      have HY := Lib.hid hy
      clear hp HW hy
      by_cases hxy : -1 ≤ y ∧ y < (N : Int)
      · have HXY := Lib.hid hxy; clear hxy
        go_wp2_with (go_at_call 27; refine (isSlot_not _ bx bh y An N cn HB.out HH.out false ⟨(fun h => by cases h), fun h => absurd HXY.out h⟩).mono ?_; rintro e w' ⟨rfl, hw'⟩; have hw2 := hw'.symm; subst hw2)
        go_roundw
        case rel => exact ⟨k + 1, by omega, by go_num, (by first | rfl | trivial), fun x hx => by
          rw [List.take_add_one, HY.out] at hx
          rcases List.mem_append.1 hx with hx | hx
          · exact HNo.out x hx
          · simp only [Option.toList_some, List.mem_singleton] at hx; subst hx; exact HXY.out⟩
        case measure => simp [intOf]; omega
      · have HXY : Hid ((-1 ≤ y ∧ y < (N : Int)) → False) := Lib.hid hxy; clear hxy
        go_wp2_with (go_at_call 27; refine (isSlot_not _ bx bh y An N cn HB.out HH.out true ⟨fun _ => HXY.out, fun _ => rfl⟩).mono ?_; rintro e w' ⟨rfl, hw'⟩; have hw2 := hw'.symm; subst hw2)
        go_ret
        exact ⟨⟨k, rfl, ⟨fun _ => ⟨y, List.mem_of_getElem? HY.out, HXY.out⟩, fun _ => by omega⟩, by omega⟩, rfl⟩
    · go_wp2_with fail
      go_ret
      refine ⟨⟨-1, rfl, ⟨fun h => by omega, fun ⟨x, hx, h⟩ => ?_⟩, by omega⟩, rfl⟩
      exact absurd (HNo.out x (by rw [List.take_of_length_le (by omega)]; exact hx)) h
theorem isSlot_contains (w : World) (bx bh : Nat) (v : Value) (l : List Int) (An : Option Addr) (N cn : Nat) (hl : IntsV w w.heap.size v l) (hbox : w.cell? ⟨bx, 3, none⟩ = some (.slice An N cn)) (hh : w.cell? ⟨bh, 0, none⟩ = some (.func (.func 25) #[] #[.pointer (some ⟨bx, 0, none⟩)])) (t : Bool) (ht : t = true ↔ ∃ x ∈ l, ¬ (-1 ≤ x ∧ x < (N : Int))) :
    Calls Try.prog 10 #[v, .func (.func 27) #[] #[.pointer (some ⟨bh, 0, none⟩)]] w (fun e w' => e = .returned (.bool t) ∧ w' = w) := by
  obtain ⟨A, c, rfl, _hc, hlc, _⟩ := id hl
  have HL := Lib.hid hl; have HB := Lib.hid hbox; have HH := Lib.hid hh
  clear hl hlc hbox hh
  cases t with
  | true =>
    have HX := Lib.hid (ht.1 rfl); clear ht
    go_enter Try.func10, Try.ntmps10
    go_wp2_with (go_at_call 18; refine (isSlot_index w bx bh _ l An N cn HL.out HB.out HH.out).mono ?_; rintro e w' ⟨⟨k, rfl, hk, h1⟩, rfl⟩; have hk0 : 0 ≤ k := hk.2 HX.out; clear hk)
    go_ret
    exact ⟨by simp [hk0], rfl⟩
  | false =>
    have HX : Hid ((∃ x ∈ l, ¬ (-1 ≤ x ∧ x < (N : Int))) → False) := Lib.hid (fun h => by have := ht.2 h; cases this)
    clear ht
    go_enter Try.func10, Try.ntmps10
    go_wp2_with (go_at_call 18; refine (isSlot_index w bx bh _ l An N cn HL.out HB.out HH.out).mono ?_; rintro e w' ⟨⟨k, rfl, hk, h1⟩, rfl⟩; obtain rfl : k = -1 := (by have : ¬ 0 ≤ k := fun h => HX.out (hk.1 h); omega); clear hk h1)
    go_ret
    exact ⟨rfl, rfl⟩
theorem isSlot_miss (w : World) (bx : Nat) (v : Value) (l : List Int) (An : Option Addr) (N cn : Nat) (hl : IntsV w w.heap.size v l) (hbox : w.cell? ⟨bx, 3, none⟩ = some (.slice An N cn)) (t : Bool) (ht : t = true ↔ ∃ x ∈ l, ¬ (-1 ≤ x ∧ x < (N : Int))) :
    Calls Try.prog 26 #[v, .func (.func 25) #[] #[.pointer (some ⟨bx, 0, none⟩)]] w (fun e w' => e = .returned (.bool t) ∧ Below w.heap.size w w') := by
  have hl2 := hl.later ((Below.refl w.heap.size w).alloc (Nat.le_refl _) (.cells #[.func (.func 25) #[] #[.pointer (some ⟨bx, 0, none⟩)]] 37)) (Nat.le_refl _)
  have hb2 : (w.alloc (.cells #[.func (.func 25) #[] #[.pointer (some ⟨bx, 0, none⟩)]] 37)).cell? ⟨bx, 3, none⟩ = some (.slice An N cn) := (World.grownBy_alloc w _ none).cell hbox (by simp)
  have hh2 : (w.alloc (.cells #[.func (.func 25) #[] #[.pointer (some ⟨bx, 0, none⟩)]] 37)).cell? ⟨w.heap.size, 0, none⟩ = some (.func (.func 25) #[] #[.pointer (some ⟨bx, 0, none⟩)]) := (Blk.new w _ _).cell 0
  have H1 := Lib.hid hl2; have H2 := Lib.hid hb2; have H3 := Lib.hid hh2; have HT := Lib.hid ht
  obtain ⟨A, c, rfl, _⟩ := hl
  clear hl2 hb2 hh2 hbox ht
  go_enter Try.func26, Try.ntmps26
  go_wp2_with (go_at_call 10; refine (isSlot_contains _ bx w.heap.size _ l An N cn H1.out H2.out H3.out t HT.out).mono ?_; rintro e w' ⟨rfl, rfl⟩)
  go_ret
  exact ⟨rfl, (Below.refl _ _).alloc (Nat.le_refl _) _⟩

theorem isBlock_not (w : World) (bx bh : Nat) (n : Int) (An : Option Addr) (N cn : Nat) (hbox : w.cell? ⟨bx, 4, none⟩ = some (.slice An N cn)) (hh : w.cell? ⟨bh, 0, none⟩ = some (.func (.func 29) #[] #[.pointer (some ⟨bx, 0, none⟩)])) (t : Bool) (ht : t = true ↔ ¬ (0 ≤ n ∧ n < (N : Int))) :
    Calls Try.prog 27 #[.int .i64 n, .pointer (some ⟨bh, 0, none⟩)] w (fun e w' => e = .returned (.bool t) ∧ w' = w) := by
  have hn : (!t) = true ↔ 0 ≤ n ∧ n < (N : Int) := by cases t <;> simp at ht ⊢ <;> omega
  have HN := Lib.hid hn; have HB := Lib.hid hbox
  obtain ⟨s, hs⟩ : ∃ s : Bool, s = !t := ⟨_, rfl⟩
  have HS := Lib.hid hs
  clear hn hbox ht hs
  go_enter Try.func27, Try.ntmps27
  go_wp2_with (go_at_call 29; refine (isBlock_any w bx n An N cn HB.out s (by rw [HS.out]; exact HN.out)).mono ?_; rintro e w' ⟨rfl, hw'⟩; have hw2 := hw'.symm; subst hw2)
  go_ret
  exact ⟨by rw [HS.out]; simp, rfl⟩
theorem isBlock_index (w : World) (bx bh : Nat) (v : Value) (l : List Int) (An : Option Addr) (N cn : Nat) (hl : IntsV w w.heap.size v l) (hbox : w.cell? ⟨bx, 4, none⟩ = some (.slice An N cn)) (hh : w.cell? ⟨bh, 0, none⟩ = some (.func (.func 29) #[] #[.pointer (some ⟨bx, 0, none⟩)])) :
    Calls Try.prog 18 #[v, .func (.func 27) #[] #[.pointer (some ⟨bh, 0, none⟩)]] w (fun e w' => (∃ k : Int, e = .returned (.int .i64 k) ∧ (0 ≤ k ↔ ∃ x ∈ l, ¬ (0 ≤ x ∧ x < (N : Int))) ∧ -1 ≤ k) ∧ w' = w) := by
  obtain ⟨A, c, rfl, _hc, hlc, hl⟩ := hl
  have hlim : l.length ≤ 17592186044416 := by unfold lim at hlc; omega
  have HW := Lib.hid hl; have HB := Lib.hid hbox; have HH := Lib.hid hh
  clear hl hlc hbox hh
  go_enter Try.func18, Try.ntmps18
  go_wp2_with fail
  go_loopw [8] (fun i wr => ∃ k : Nat, k ≤ l.length ∧ i = .int .i64 k ∧ wr = w ∧ ∀ x ∈ l.take k, 0 ≤ x ∧ x < (N : Int)) (fun i _ => l.length - (intOf i).toNat)
  case atStart => exact ⟨0, Nat.zero_le _, rfl, rfl, by simp⟩
  case round =>
    obtain ⟨k, hk, rfl, rfl, hno⟩ := hrel
    have HNo := Lib.hid hno; clear hno
    by_cases hlt : k < l.length
    · obtain ⟨b, off, rfl, hbB, hp⟩ := HW.out (by omega)
      obtain ⟨y, hy⟩ := getE hlt
      have f0 := hp k y hy
      have HY := Lib.hid hy
      clear hp HW hy
      by_cases hxy : 0 ≤ y ∧ y < (N : Int)
      · have HXY := Lib.hid hxy; clear hxy
        go_wp2_with (go_at_call 27; refine (isBlock_not _ bx bh y An N cn HB.out HH.out false ⟨(fun h => by cases h), fun h => absurd HXY.out h⟩).mono ?_; rintro e w' ⟨rfl, hw'⟩; have hw2 := hw'.symm; subst hw2)
        go_roundw
        case rel => exact ⟨k + 1, by omega, by go_num, (by first | rfl | trivial), fun x hx => by
          rw [List.take_add_one, HY.out] at hx
          rcases List.mem_append.1 hx with hx | hx
          · exact HNo.out x hx
          · simp only [Option.toList_some, List.mem_singleton] at hx; subst hx; exact HXY.out⟩
        case measure => simp [intOf]; omega
      · have HXY : Hid ((0 ≤ y ∧ y < (N : Int)) → False) := Lib.hid hxy; clear hxy
        go_wp2_with (go_at_call 27; refine (isBlock_not _ bx bh y An N cn HB.out HH.out true ⟨fun _ => HXY.out, fun _ => rfl⟩).mono ?_; rintro e w' ⟨rfl, hw'⟩; have hw2 := hw'.symm; subst hw2)
        go_ret
        exact ⟨⟨k, rfl, ⟨fun _ => ⟨y, List.mem_of_getElem? HY.out, HXY.out⟩, fun _ => by omega⟩, by omega⟩, rfl⟩
    · go_wp2_with fail
      go_ret
      refine ⟨⟨-1, rfl, ⟨fun h => by omega, fun ⟨x, hx, h⟩ => ?_⟩, by omega⟩, rfl⟩
      exact absurd (HNo.out x (by rw [List.take_of_length_le (by omega)]; exact hx)) h
theorem isBlock_contains (w : World) (bx bh : Nat) (v : Value) (l : List Int) (An : Option Addr) (N cn : Nat) (hl : IntsV w w.heap.size v l) (hbox : w.cell? ⟨bx, 4, none⟩ = some (.slice An N cn)) (hh : w.cell? ⟨bh, 0, none⟩ = some (.func (.func 29) #[] #[.pointer (some ⟨bx, 0, none⟩)])) (t : Bool) (ht : t = true ↔ ∃ x ∈ l, ¬ (0 ≤ x ∧ x < (N : Int))) :
    Calls Try.prog 10 #[v, .func (.func 27) #[] #[.pointer (some ⟨bh, 0, none⟩)]] w (fun e w' => e = .returned (.bool t) ∧ w' = w) := by
  obtain ⟨A, c, rfl, _hc, hlc, _⟩ := id hl
  have HL := Lib.hid hl; have HB := Lib.hid hbox; have HH := Lib.hid hh
  clear hl hlc hbox hh
  cases t with
  | true =>
    have HX := Lib.hid (ht.1 rfl); clear ht
    go_enter Try.func10, Try.ntmps10
    go_wp2_with (go_at_call 18; refine (isBlock_index w bx bh _ l An N cn HL.out HB.out HH.out).mono ?_; rintro e w' ⟨⟨k, rfl, hk, h1⟩, rfl⟩; have hk0 : 0 ≤ k := hk.2 HX.out; clear hk)
    go_ret
    exact ⟨by simp [hk0], rfl⟩
  | false =>
    have HX : Hid ((∃ x ∈ l, ¬ (0 ≤ x ∧ x < (N : Int))) → False) := Lib.hid (fun h => by have := ht.2 h; cases this)
    clear ht
    go_enter Try.func10, Try.ntmps10
    go_wp2_with (go_at_call 18; refine (isBlock_index w bx bh _ l An N cn HL.out HB.out HH.out).mono ?_; rintro e w' ⟨⟨k, rfl, hk, h1⟩, rfl⟩; obtain rfl : k = -1 := (by have : ¬ 0 ≤ k := fun h => HX.out (hk.1 h); omega); clear hk h1)
    go_ret
    exact ⟨rfl, rfl⟩
theorem isBlock_miss (w : World) (bx : Nat) (v : Value) (l : List Int) (An : Option Addr) (N cn : Nat) (hl : IntsV w w.heap.size v l) (hbox : w.cell? ⟨bx, 4, none⟩ = some (.slice An N cn)) (t : Bool) (ht : t = true ↔ ∃ x ∈ l, ¬ (0 ≤ x ∧ x < (N : Int))) :
    Calls Try.prog 26 #[v, .func (.func 29) #[] #[.pointer (some ⟨bx, 0, none⟩)]] w (fun e w' => e = .returned (.bool t) ∧ Below w.heap.size w w') := by
  have hl2 := hl.later ((Below.refl w.heap.size w).alloc (Nat.le_refl _) (.cells #[.func (.func 29) #[] #[.pointer (some ⟨bx, 0, none⟩)]] 37)) (Nat.le_refl _)
  have hb2 : (w.alloc (.cells #[.func (.func 29) #[] #[.pointer (some ⟨bx, 0, none⟩)]] 37)).cell? ⟨bx, 4, none⟩ = some (.slice An N cn) := (World.grownBy_alloc w _ none).cell hbox (by simp)
  have hh2 : (w.alloc (.cells #[.func (.func 29) #[] #[.pointer (some ⟨bx, 0, none⟩)]] 37)).cell? ⟨w.heap.size, 0, none⟩ = some (.func (.func 29) #[] #[.pointer (some ⟨bx, 0, none⟩)]) := (Blk.new w _ _).cell 0
  have H1 := Lib.hid hl2; have H2 := Lib.hid hb2; have H3 := Lib.hid hh2; have HT := Lib.hid ht
  obtain ⟨A, c, rfl, _⟩ := hl
  clear hl2 hb2 hh2 hbox ht
  go_enter Try.func26, Try.ntmps26
  go_wp2_with (go_at_call 10; refine (isBlock_contains _ bx w.heap.size _ l An N cn H1.out H2.out H3.out t HT.out).mono ?_; rintro e w' ⟨rfl, rfl⟩)
  go_ret
  exact ⟨rfl, (Below.refl _ _).alloc (Nat.le_refl _) _⟩
end Go.Proofs.Ytkmfdiboekoioaa
