/- The rows of reg, and slices.IndexFunc over them. No condition. -/
import Derived.Test.YtkmfdiboekoioaaGreatCVer3
set_option linter.unusedSimpArgs false
set_option linter.unusedVariables false
namespace Go.Proofs.YtkmfdiboekoioaaGreat
open Go.RowKit
theorem sign_any (w : World) (m : Int) : Calls Tryz.prog 165 #[.int .u8 m] w (fun e w' => e = .returned (.func (.func 177) #[] #[.pointer (some ⟨w.heap.size, 0, none⟩)]) ∧ Blk w' w.heap.size 223 #[.int .u8 m] ∧ Below w.heap.size w w') := by
  go_enter Tryz.func165, Tryz.ntmps165
  go_wp2_with fail
  go_ret
  exact ⟨rfl, Blk.new _ _ _, (Below.refl _ _).alloc (Nat.le_refl _) _⟩
/-- A row: what an instruction may be; the function that asks of its number. -/
structure RowR where
  op : Int
  tos : Bool
  args : Int
  exit : Bool
  fine : Option (Nat × Array Value)
def fineV : Option (Nat × Array Value) → Value
  | none => .nilFunc
  | some (pf, cs) => .func (.func pf) #[] cs
def rowsR (b1 b2 : Nat) : List RowR := [
  ⟨1, true, 0, true, some (162, #[])⟩,
  ⟨2, true, 0, false, some (163, #[])⟩,
  ⟨3, true, 1, false, none⟩,
  ⟨4, true, 1, true, none⟩,
  ⟨5, true, 1, true, none⟩,
  ⟨6, false, 2, true, none⟩,
  ⟨7, true, 0, false, some (164, #[])⟩,
  ⟨8, false, 1, true, some (164, #[])⟩,
  ⟨9, true, 2, true, some (177, #[.pointer (some ⟨b1, 0, none⟩)])⟩,
  ⟨14, true, 2, true, some (177, #[.pointer (some ⟨b2, 0, none⟩)])⟩,
  ⟨10, true, 1, true, none⟩,
  ⟨11, true, 1, true, none⟩,
  ⟨12, true, 1, true, none⟩,
  ⟨13, true, 1, true, none⟩,
  ⟨15, false, 1, true, none⟩,
  ⟨16, false, 0, false, some (163, #[])⟩,
  ⟨17, false, 1, true, some (163, #[])⟩,
  ⟨18, false, 0, true, some (163, #[])⟩,
  ⟨19, true, -1, true, none⟩,
  ⟨20, true, -1, true, some (166, #[])⟩,
  ⟨21, true, 2, true, none⟩,
  ⟨22, false, 3, true, none⟩,
  ⟨23, true, -1, true, some (167, #[])⟩,
  ⟨24, true, -1, true, some (168, #[])⟩,
  ⟨25, false, 1, false, none⟩,
  ⟨26, false, 1, true, none⟩,
  ⟨27, false, 1, true, none⟩]
def rowRCells (r : RowR) : List Value := [.int .u8 r.op, .bool r.tos, .int .i64 r.args, .bool r.exit, fineV r.fine]
def RowRAt (w : World) (b o : Nat) (r : RowR) : Prop := w.cell? ⟨b, o, none⟩ = some (.int .u8 r.op) ∧ w.cell? ⟨b, o + 1, none⟩ = some (.bool r.tos) ∧ w.cell? ⟨b, o + 2, none⟩ = some (.int .i64 r.args) ∧ w.cell? ⟨b, o + 3, none⟩ = some (.bool r.exit) ∧ w.cell? ⟨b, o + 4, none⟩ = some (fineV r.fine)
abbrev RowsRV (w : World) (B : Nat) := PartsV B (RowRAt w) 5
theorem RowsRV.keep {w w' : World} {B : Nat} {v : Value} {l : List RowR} (h : RowsRV w B v l) (hk : Same B w w') : RowsRV w' B v l :=
  h.imp (Nat.le_refl _) fun _ _ _ hb h => ⟨(hk _ hb).trans h.1, (hk _ hb).trans h.2.1, (hk _ hb).trans h.2.2.1, (hk _ hb).trans h.2.2.2.1, (hk _ hb).trans h.2.2.2.2⟩
theorem rowsR_at : ∀ (l : List RowR) (o k : Nat) (r : RowR), l[o]? = some r → k < 5 → (l.flatMap rowRCells)[o * 5 + k]? = (rowRCells r)[k]?
  | [], o, k, r, h, _ => by simp at h
  | x :: l, o, k, r, h, hk => by
    have h5 : (rowRCells x).length = 5 := rfl
    cases o with
    | zero =>
      simp only [List.getElem?_cons_zero, Option.some.injEq] at h
      subst h
      rw [List.flatMap_cons, List.getElem?_append_left (by rw [h5]; omega)]; simp
    | succ o =>
      rw [List.getElem?_cons_succ] at h
      rw [List.flatMap_cons, List.getElem?_append_right (by rw [h5]; omega), h5, show (o + 1) * 5 + k - 5 = o * 5 + k by omega]
      exact rowsR_at l o k r h hk
theorem rowsR_mem {w : World} {b : Nat} {l : List RowR} (h : Blk w b 206 (l.flatMap rowRCells).toArray) (hl : l.length ≤ lim) (h0 : 0 < l.length) : RowsRV w w.heap.size (.slice (some ⟨b, 0, none⟩) l.length l.length) l := by
  refine ⟨_, _, rfl, Nat.le_refl _, hl, fun _ => ⟨b, 0, rfl, h.lt, fun j r hj => ?_⟩⟩
  have c : ∀ (k : Nat) (v : Value), k < 5 → (rowRCells r)[k]? = some v → w.cell? ⟨b, j * 5 + k, none⟩ = some v := fun k v hk hv => (h.cell (j * 5 + k)).trans (by rw [List.getElem?_toArray, rowsR_at l j k r hj hk, hv])
  rw [Nat.zero_add]
  exact ⟨c 0 _ (by omega) rfl, c 1 _ (by omega) rfl, c 2 _ (by omega) rfl, c 3 _ (by omega) rfl, c 4 _ (by omega) rfl⟩
def RegRowsIs (w : World) (e : Ending) (w' : World) : Prop := ∃ b1 b2 b : Nat, e = .returned (.slice (some ⟨b, 0, none⟩) 27 27) ∧ RowsRV w' w'.heap.size (.slice (some ⟨b, 0, none⟩) 27 27) (rowsR b1 b2) ∧ Blk w' b1 223 #[.int .u8 9] ∧ Blk w' b2 223 #[.int .u8 7] ∧ Below w.heap.size w w'
set_option maxRecDepth 100000 in
set_option maxHeartbeats 8000000 in
theorem regRows_any (w : World) : Calls Tryz.prog 135 #[] w (RegRowsIs w) := by
  go_enter Tryz.func135, Tryz.ntmps135
  go_wp2_with (first
    | (go_at_call 165; refine (sign_any w2 7).mono ?_; rintro e w3 ⟨rfl, h1, h2⟩; have H1 := Lib.hid h1; have H2 := Lib.hid h2; clear h1 h2)
    | (go_at_call 165; refine (sign_any w 9).mono ?_; rintro e w2 ⟨rfl, h1, h2⟩; have H3 := Lib.hid h1; have H4 := Lib.hid h2; clear h1 h2))
  go_ret
  refine ⟨w.heap.size, w2.heap.size, w3.heap.size, rfl, ?_, ?_, ?_, ?_⟩
  · exact rowsR_mem (l := rowsR w.heap.size w2.heap.size) (Blk.new w3 _ _) (show 27 ≤ lim by decide) (show 0 < 27 by decide)
  · exact (H3.out.below H2.out H3.out.lt).alloc _
  · exact H1.out.alloc _
  · exact (H4.out.trans (H2.out.mono H4.out.size)).alloc (Nat.le_trans H4.out.size H2.out.size) _

set_option maxRecDepth 100000 in
set_option maxHeartbeats 4000000 in
theorem ixRow_any (w : World) (v : Value) (l : List RowR) (pf : Nat) (fs cs : Array Value) (q : RowR → Bool) (hl : RowsRV w w.heap.size v l) (hf : Enters pf)
    (hp : ∀ (wr : World) (x : RowR), x ∈ l → Below w.heap.size w wr → Calls Tryz.prog pf (fs.push (.agg #[.int .u8 x.op, .bool x.tos, .int .i64 x.args, .bool x.exit, fineV x.fine]) ++ cs) wr (fun e w' => e = .returned (.bool (q x)) ∧ Below wr.heap.size wr w')) :
    Calls Tryz.prog 136 #[v, .func (.func pf) fs cs] w (fun e w' => e = .returned (.int .i64 (ixOf q l)) ∧ Below w.heap.size w w') := by
  have HL := Lib.hid hl; have HP := Lib.hid hp
  have hfr := hf
  unfold Enters at hfr
  obtain ⟨A, c, rfl, _hc, hlc, _⟩ := hl
  have hlim : l.length ≤ 17592186044416 := by unfold lim at hlc; omega
  clear hlc hp
  go_enter Tryz.func136, Tryz.ntmps136
  go_wp2_with fail
  go_loopw [8] (fun i wr => ∃ k : Nat, k ≤ l.length ∧ i = .int .i64 k ∧ Hid (Below w.heap.size w wr) ∧ Hid (∀ x ∈ l.take k, q x = false)) (fun i _ => l.length - (intOf i).toNat)
  case atStart => exact ⟨0, Nat.zero_le _, rfl, Lib.hid (Below.refl _ _), Lib.hid (by simp)⟩
  case round =>
    obtain ⟨k, hk, rfl, HB, HNo⟩ := hrel
    by_cases hlt : k < l.length
    · obtain ⟨A', c', en, _, _, hp⟩ := RowsRV.keep HL.out (Same.of_below HB.out)
      injection en with en1 en2 en3
      subst en1
      obtain ⟨b, off, rfl, hbB, hp⟩ := hp (by omega)
      obtain ⟨y, hy⟩ := getL hlt
      obtain ⟨f0, f1, f2, f3, f4⟩ := hp k y hy
      have HY := Lib.hid hy
      have HC := Lib.hid (HP.out wr y (List.mem_of_getElem? hy) HB.out)
      clear hp hy en3
      obtain ⟨t, ht⟩ : ∃ t : Bool, t = q y := ⟨_, rfl⟩
      rw [← ht] at HC
      have HT := Lib.hid ht
      clear ht
      cases t with
      | true =>
        go_wp2_with (with_reducible refine HC.out.mono ?_; rintro e w2 ⟨rfl, hb2⟩; have HB2 := Lib.hid hb2; clear hb2)
        go_ret
        exact ⟨by rw [ixOf_found HNo.out HY.out HT.out.symm]; rfl, HB.out.trans (HB2.out.mono HB.out.size)⟩
      | false =>
        go_wp2_with (with_reducible refine HC.out.mono ?_; rintro e w2 ⟨rfl, hb2⟩; have HB2 := Lib.hid hb2; clear hb2)
        go_roundw
        case rel => exact ⟨k + 1, by omega, by go_num, Lib.hid (HB.out.trans (HB2.out.mono HB.out.size)), Lib.hid (take_no HNo.out HY.out HT.out.symm)⟩
        case measure => simp [intOf]; omega
    · go_wp2_with fail
      go_ret
      exact ⟨by rw [ixOf_none fun x hx => HNo.out x (by rw [List.take_of_length_le (by omega)]; exact hx)]; rfl, HB.out⟩
end Go.Proofs.YtkmfdiboekoioaaGreat
