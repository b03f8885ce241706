/- slices.ContainsFunc and slices.IndexFunc at the types of this program, whatever the function asks. Conditions: the function answers at each item, and writes nothing that was there. -/
import Derived.Test.YtkmfdiboekoioaaGreatCVer2
set_option linter.unusedSimpArgs false
set_option linter.unusedVariables false
namespace Go.Proofs.YtkmfdiboekoioaaGreat
open Go.RowKit
def ixOf {α : Type} (q : α → Bool) (l : List α) : Int := match l.findIdx? q with | some k => (k : Int) | none => -1
/-- A function of the program's own, entered by its number. -/
def Enters (pf : Nat) : Prop := ∀ (args : Array Value) (W : World), (callFunc pf args).run Tryz.prog W = .ok (.enter pf args) W
theorem ixOf_found {α : Type} {q : α → Bool} {l : List α} {k : Nat} {y : α} (hno : ∀ x ∈ l.take k, q x = false) (hy : l[k]? = some y) (hq : q y = true) : ixOf q l = (k : Int) := by
  unfold ixOf
  have : l.findIdx? q = some k := by
    rw [List.findIdx?_eq_some_iff_getElem]
    obtain ⟨hk, e⟩ := List.getElem?_eq_some_iff.1 hy
    refine ⟨hk, by rw [e]; exact hq, fun j hj => ?_⟩
    have := hno l[j] (List.mem_iff_getElem.2 ⟨j, by simp; omega, by simp⟩)
    simp [this]
  rw [this]
theorem ixOf_none {α : Type} {q : α → Bool} {l : List α} (hno : ∀ x ∈ l, q x = false) : ixOf q l = -1 := by
  unfold ixOf
  have : l.findIdx? q = none := List.findIdx?_eq_none_iff.2 fun x hx => hno x hx
  rw [this]
theorem ixOf_any {α : Type} (q : α → Bool) (l : List α) : decide (0 ≤ ixOf q l) = l.any q := by
  by_cases h : ∃ x ∈ l, q x = true
  · rw [List.any_eq_true.2 h]
    unfold ixOf
    cases hf : l.findIdx? q with
    | none =>
      obtain ⟨x, hx, hq⟩ := h
      have := List.findIdx?_eq_none_iff.1 hf x hx
      rw [this] at hq; cases hq
    | some k => simp
  · have hn : ∀ x ∈ l, q x = false := fun x hx => Bool.eq_false_iff.2 fun hq => h ⟨x, hx, hq⟩
    rw [ixOf_none hn]
    have : l.any q = false := by rw [← Bool.not_eq_true, List.any_eq_true]; exact h
    rw [this]; rfl
theorem take_no {α : Type} {l : List α} {q : α → Bool} {k : Nat} {y : α} (h : ∀ x ∈ l.take k, q x = false) (hy : l[k]? = some y) (hq : q y = false) : ∀ x ∈ l.take (k + 1), q x = false := fun x hx => by
  rw [List.take_add_one, hy] at hx
  rcases List.mem_append.1 hx with hx | hx
  · exact h x hx
  · simp only [Option.toList_some, List.mem_singleton] at hx; subst hx; exact hq

theorem CapsV.keep {w w' : World} {B : Nat} {v : Value} {l : List CapP} (h : CapsV w B v l) (hk : Same B w w') : CapsV w' B v l := h.imp (Nat.le_refl _) fun _ _ _ hb h => h.keep hk hb
theorem ConstsV.keep {w w' : World} {B : Nat} {v : Value} {l : List ConstP} (h : ConstsV w B v l) (hk : Same B w w') : ConstsV w' B v l := h.imp (Nat.le_refl _) fun _ _ _ hb h => h.keep hk hb
theorem HandlersV.keep {w w' : World} {B : Nat} {v : Value} {l : List HandlerP} (h : HandlersV w B v l) (hk : Same B w w') : HandlersV w' B v l := h.imp (Nat.le_refl _) fun _ _ _ hb h => h.keep hk hb
theorem InsesV.keep {w w' : World} {B : Nat} {v : Value} {l : List InsP} (h : InsesV w B v l) (hk : Same B w w') : InsesV w' B v l := h.imp (Nat.le_refl _) fun _ _ _ hb h => h.keep hk hb

set_option maxRecDepth 100000 in
set_option maxHeartbeats 4000000 in
theorem ixInt_any (w : World) (v : Value) (l : List Int) (pf : Nat) (fs cs : Array Value) (q : Int → Bool) (hl : IntsV w w.heap.size v l) (hf : Enters pf)
    (hp : ∀ (wr : World) (x : Int), x ∈ l → Below w.heap.size w wr → Calls Tryz.prog pf (fs.push (.int .i64 x) ++ cs) wr (fun e w' => e = .returned (.bool (q x)) ∧ Below wr.heap.size wr w')) :
    Calls Tryz.prog 115 #[v, .func (.func pf) fs cs] w (fun e w' => e = .returned (.int .i64 (ixOf q l)) ∧ Below w.heap.size w w') := by
  have HL := Lib.hid hl; have HP := Lib.hid hp
  have hfr := hf
  unfold Enters at hfr
  obtain ⟨A, c, rfl, _hc, hlc, _⟩ := hl
  have hlim : l.length ≤ 17592186044416 := by unfold lim at hlc; omega
  clear hlc hp
  go_enter Tryz.func115, Tryz.ntmps115
  go_wp2_with fail
  go_loopw [8] (fun i wr => ∃ k : Nat, k ≤ l.length ∧ i = .int .i64 k ∧ Hid (Below w.heap.size w wr) ∧ Hid (∀ x ∈ l.take k, q x = false)) (fun i _ => l.length - (intOf i).toNat)
  case atStart => exact ⟨0, Nat.zero_le _, rfl, Lib.hid (Below.refl _ _), Lib.hid (by simp)⟩
  case round =>
    obtain ⟨k, hk, rfl, HB, HNo⟩ := hrel
    by_cases hlt : k < l.length
    · obtain ⟨A', c', en, _, _, hp⟩ := IntsV.keep HL.out (Same.of_below HB.out)
      injection en with en1 en2 en3
      subst en1
      obtain ⟨b, off, rfl, hbB, hp⟩ := hp (by omega)
      obtain ⟨y, hy⟩ := getL hlt
      have f0 := hp k y hy
      have HY := Lib.hid hy
      have HC := Lib.hid (HP.out wr y (List.mem_of_getElem? hy) HB.out)
      clear hp hy en3
      obtain ⟨t, ht⟩ : ∃ t : Bool, t = q y := ⟨_, rfl⟩
      rw [← ht] at HC
      have HT := Lib.hid ht
      clear ht
      cases t with
      | true =>
        go_wp2_with (with_reducible refine HC.out.mono ?_; rintro e w2 ⟨rfl, hb2⟩; have HB2 := Lib.hid hb2; clear hb2)
        go_ret
        exact ⟨by rw [ixOf_found HNo.out HY.out HT.out.symm]; rfl, HB.out.trans (HB2.out.mono HB.out.size)⟩
      | false =>
        go_wp2_with (with_reducible refine HC.out.mono ?_; rintro e w2 ⟨rfl, hb2⟩; have HB2 := Lib.hid hb2; clear hb2)
        go_roundw
        case rel => exact ⟨k + 1, by omega, by go_num, Lib.hid (HB.out.trans (HB2.out.mono HB.out.size)), Lib.hid (take_no HNo.out HY.out HT.out.symm)⟩
        case measure => simp [intOf]; omega
    · go_wp2_with fail
      go_ret
      exact ⟨by rw [ixOf_none fun x hx => HNo.out x (by rw [List.take_of_length_le (by omega)]; exact hx)]; rfl, HB.out⟩

set_option maxRecDepth 100000 in
set_option maxHeartbeats 4000000 in
theorem ctInt_any (w : World) (v : Value) (l : List Int) (pf : Nat) (fs cs : Array Value) (q : Int → Bool) (hl : IntsV w w.heap.size v l) (hf : Enters pf)
    (hp : ∀ (wr : World) (x : Int), x ∈ l → Below w.heap.size w wr → Calls Tryz.prog pf (fs.push (.int .i64 x) ++ cs) wr (fun e w' => e = .returned (.bool (q x)) ∧ Below wr.heap.size wr w')) (t : Bool) (ht : t = l.any q) :
    Calls Tryz.prog 65 #[v, .func (.func pf) fs cs] w (fun e w' => e = .returned (.bool t) ∧ Below w.heap.size w w') := by
  have HL := Lib.hid hl; have HP := Lib.hid hp; have HT := Lib.hid ht
  obtain ⟨A, c, rfl, _⟩ := hl
  clear hp ht
  go_enter Tryz.func65, Tryz.ntmps65
  go_wp2_with (go_at_call 115; refine (ixInt_any w _ l pf fs cs q HL.out hf HP.out).mono ?_; rintro e w2 ⟨rfl, hb2⟩; have HB2 := Lib.hid hb2; clear hb2)
  go_ret
  exact ⟨by rw [HT.out, ← ixOf_any]; rfl, HB2.out⟩

set_option maxRecDepth 100000 in
set_option maxHeartbeats 4000000 in
theorem ixCap_any (w : World) (v : Value) (l : List CapP) (pf : Nat) (fs cs : Array Value) (q : CapP → Bool) (hl : CapsV w w.heap.size v l) (hf : Enters pf)
    (hp : ∀ (wr : World) (x : CapP), x ∈ l → Below w.heap.size w wr → Calls Tryz.prog pf (fs.push (.agg #[.bool x.up, .int .i64 x.n]) ++ cs) wr (fun e w' => e = .returned (.bool (q x)) ∧ Below wr.heap.size wr w')) :
    Calls Tryz.prog 191 #[v, .func (.func pf) fs cs] w (fun e w' => e = .returned (.int .i64 (ixOf q l)) ∧ Below w.heap.size w w') := by
  have HL := Lib.hid hl; have HP := Lib.hid hp
  have hfr := hf
  unfold Enters at hfr
  obtain ⟨A, c, rfl, _hc, hlc, _⟩ := hl
  have hlim : l.length ≤ 17592186044416 := by unfold lim at hlc; omega
  clear hlc hp
  go_enter Tryz.func191, Tryz.ntmps191
  go_wp2_with fail
  go_loopw [8] (fun i wr => ∃ k : Nat, k ≤ l.length ∧ i = .int .i64 k ∧ Hid (Below w.heap.size w wr) ∧ Hid (∀ x ∈ l.take k, q x = false)) (fun i _ => l.length - (intOf i).toNat)
  case atStart => exact ⟨0, Nat.zero_le _, rfl, Lib.hid (Below.refl _ _), Lib.hid (by simp)⟩
  case round =>
    obtain ⟨k, hk, rfl, HB, HNo⟩ := hrel
    by_cases hlt : k < l.length
    · obtain ⟨A', c', en, _, _, hp⟩ := CapsV.keep HL.out (Same.of_below HB.out)
      injection en with en1 en2 en3
      subst en1
      obtain ⟨b, off, rfl, hbB, hp⟩ := hp (by omega)
      obtain ⟨y, hy⟩ := getL hlt
      obtain ⟨f0, f1⟩ := hp k y hy
      have HY := Lib.hid hy
      have HC := Lib.hid (HP.out wr y (List.mem_of_getElem? hy) HB.out)
      clear hp hy en3
      obtain ⟨t, ht⟩ : ∃ t : Bool, t = q y := ⟨_, rfl⟩
      rw [← ht] at HC
      have HT := Lib.hid ht
      clear ht
      cases t with
      | true =>
        go_wp2_with (with_reducible refine HC.out.mono ?_; rintro e w2 ⟨rfl, hb2⟩; have HB2 := Lib.hid hb2; clear hb2)
        go_ret
        exact ⟨by rw [ixOf_found HNo.out HY.out HT.out.symm]; rfl, HB.out.trans (HB2.out.mono HB.out.size)⟩
      | false =>
        go_wp2_with (with_reducible refine HC.out.mono ?_; rintro e w2 ⟨rfl, hb2⟩; have HB2 := Lib.hid hb2; clear hb2)
        go_roundw
        case rel => exact ⟨k + 1, by omega, by go_num, Lib.hid (HB.out.trans (HB2.out.mono HB.out.size)), Lib.hid (take_no HNo.out HY.out HT.out.symm)⟩
        case measure => simp [intOf]; omega
    · go_wp2_with fail
      go_ret
      exact ⟨by rw [ixOf_none fun x hx => HNo.out x (by rw [List.take_of_length_le (by omega)]; exact hx)]; rfl, HB.out⟩

set_option maxRecDepth 100000 in
set_option maxHeartbeats 4000000 in
theorem ctCap_any (w : World) (v : Value) (l : List CapP) (pf : Nat) (fs cs : Array Value) (q : CapP → Bool) (hl : CapsV w w.heap.size v l) (hf : Enters pf)
    (hp : ∀ (wr : World) (x : CapP), x ∈ l → Below w.heap.size w wr → Calls Tryz.prog pf (fs.push (.agg #[.bool x.up, .int .i64 x.n]) ++ cs) wr (fun e w' => e = .returned (.bool (q x)) ∧ Below wr.heap.size wr w')) (t : Bool) (ht : t = l.any q) :
    Calls Tryz.prog 174 #[v, .func (.func pf) fs cs] w (fun e w' => e = .returned (.bool t) ∧ Below w.heap.size w w') := by
  have HL := Lib.hid hl; have HP := Lib.hid hp; have HT := Lib.hid ht
  obtain ⟨A, c, rfl, _⟩ := hl
  clear hp ht
  go_enter Tryz.func174, Tryz.ntmps174
  go_wp2_with (go_at_call 191; refine (ixCap_any w _ l pf fs cs q HL.out hf HP.out).mono ?_; rintro e w2 ⟨rfl, hb2⟩; have HB2 := Lib.hid hb2; clear hb2)
  go_ret
  exact ⟨by rw [HT.out, ← ixOf_any]; rfl, HB2.out⟩

set_option maxRecDepth 100000 in
set_option maxHeartbeats 4000000 in
theorem ixConst_any (w : World) (v : Value) (l : List ConstP) (pf : Nat) (fs cs : Array Value) (q : ConstP → Bool) (hl : ConstsV w w.heap.size v l) (hf : Enters pf)
    (hp : ∀ (wr : World) (x : ConstP), x ∈ l → Below w.heap.size w wr → Calls Tryz.prog pf (fs.push (.agg #[.int .u8 x.kind, .int .i64 x.n, .string x.s]) ++ cs) wr (fun e w' => e = .returned (.bool (q x)) ∧ Below wr.heap.size wr w')) :
    Calls Tryz.prog 172 #[v, .func (.func pf) fs cs] w (fun e w' => e = .returned (.int .i64 (ixOf q l)) ∧ Below w.heap.size w w') := by
  have HL := Lib.hid hl; have HP := Lib.hid hp
  have hfr := hf
  unfold Enters at hfr
  obtain ⟨A, c, rfl, _hc, hlc, _⟩ := hl
  have hlim : l.length ≤ 17592186044416 := by unfold lim at hlc; omega
  clear hlc hp
  go_enter Tryz.func172, Tryz.ntmps172
  go_wp2_with fail
  go_loopw [8] (fun i wr => ∃ k : Nat, k ≤ l.length ∧ i = .int .i64 k ∧ Hid (Below w.heap.size w wr) ∧ Hid (∀ x ∈ l.take k, q x = false)) (fun i _ => l.length - (intOf i).toNat)
  case atStart => exact ⟨0, Nat.zero_le _, rfl, Lib.hid (Below.refl _ _), Lib.hid (by simp)⟩
  case round =>
    obtain ⟨k, hk, rfl, HB, HNo⟩ := hrel
    by_cases hlt : k < l.length
    · obtain ⟨A', c', en, _, _, hp⟩ := ConstsV.keep HL.out (Same.of_below HB.out)
      injection en with en1 en2 en3
      subst en1
      obtain ⟨b, off, rfl, hbB, hp⟩ := hp (by omega)
      obtain ⟨y, hy⟩ := getL hlt
      obtain ⟨f0, f1, f2, f3⟩ := hp k y hy
      have HY := Lib.hid hy
      have HC := Lib.hid (HP.out wr y (List.mem_of_getElem? hy) HB.out)
      clear hp hy en3
      obtain ⟨t, ht⟩ : ∃ t : Bool, t = q y := ⟨_, rfl⟩
      rw [← ht] at HC
      have HT := Lib.hid ht
      clear ht
      cases t with
      | true =>
        go_wp2_with (with_reducible refine HC.out.mono ?_; rintro e w2 ⟨rfl, hb2⟩; have HB2 := Lib.hid hb2; clear hb2)
        go_ret
        exact ⟨by rw [ixOf_found HNo.out HY.out HT.out.symm]; rfl, HB.out.trans (HB2.out.mono HB.out.size)⟩
      | false =>
        go_wp2_with (with_reducible refine HC.out.mono ?_; rintro e w2 ⟨rfl, hb2⟩; have HB2 := Lib.hid hb2; clear hb2)
        go_roundw
        case rel => exact ⟨k + 1, by omega, by go_num, Lib.hid (HB.out.trans (HB2.out.mono HB.out.size)), Lib.hid (take_no HNo.out HY.out HT.out.symm)⟩
        case measure => simp [intOf]; omega
    · go_wp2_with fail
      go_ret
      exact ⟨by rw [ixOf_none fun x hx => HNo.out x (by rw [List.take_of_length_le (by omega)]; exact hx)]; rfl, HB.out⟩

set_option maxRecDepth 100000 in
set_option maxHeartbeats 4000000 in
theorem ctConst_any (w : World) (v : Value) (l : List ConstP) (pf : Nat) (fs cs : Array Value) (q : ConstP → Bool) (hl : ConstsV w w.heap.size v l) (hf : Enters pf)
    (hp : ∀ (wr : World) (x : ConstP), x ∈ l → Below w.heap.size w wr → Calls Tryz.prog pf (fs.push (.agg #[.int .u8 x.kind, .int .i64 x.n, .string x.s]) ++ cs) wr (fun e w' => e = .returned (.bool (q x)) ∧ Below wr.heap.size wr w')) (t : Bool) (ht : t = l.any q) :
    Calls Tryz.prog 153 #[v, .func (.func pf) fs cs] w (fun e w' => e = .returned (.bool t) ∧ Below w.heap.size w w') := by
  have HL := Lib.hid hl; have HP := Lib.hid hp; have HT := Lib.hid ht
  obtain ⟨A, c, rfl, _⟩ := hl
  clear hp ht
  go_enter Tryz.func153, Tryz.ntmps153
  go_wp2_with (go_at_call 172; refine (ixConst_any w _ l pf fs cs q HL.out hf HP.out).mono ?_; rintro e w2 ⟨rfl, hb2⟩; have HB2 := Lib.hid hb2; clear hb2)
  go_ret
  exact ⟨by rw [HT.out, ← ixOf_any]; rfl, HB2.out⟩

set_option maxRecDepth 100000 in
set_option maxHeartbeats 4000000 in
theorem ixHandler_any (w : World) (v : Value) (l : List HandlerP) (pf : Nat) (fs cs : Array Value) (q : HandlerP → Bool) (hl : HandlersV w w.heap.size v l) (hf : Enters pf)
    (hp : ∀ (wr : World) (x : HandlerP), x ∈ l → Below w.heap.size w wr → Calls Tryz.prog pf (fs.push (.agg #[.int .i64 x.from_, .int .i64 x.to_, .int .i64 x.at_, .int .i64 x.deep]) ++ cs) wr (fun e w' => e = .returned (.bool (q x)) ∧ Below wr.heap.size wr w')) :
    Calls Tryz.prog 173 #[v, .func (.func pf) fs cs] w (fun e w' => e = .returned (.int .i64 (ixOf q l)) ∧ Below w.heap.size w w') := by
  have HL := Lib.hid hl; have HP := Lib.hid hp
  have hfr := hf
  unfold Enters at hfr
  obtain ⟨A, c, rfl, _hc, hlc, _⟩ := hl
  have hlim : l.length ≤ 17592186044416 := by unfold lim at hlc; omega
  clear hlc hp
  go_enter Tryz.func173, Tryz.ntmps173
  go_wp2_with fail
  go_loopw [8] (fun i wr => ∃ k : Nat, k ≤ l.length ∧ i = .int .i64 k ∧ Hid (Below w.heap.size w wr) ∧ Hid (∀ x ∈ l.take k, q x = false)) (fun i _ => l.length - (intOf i).toNat)
  case atStart => exact ⟨0, Nat.zero_le _, rfl, Lib.hid (Below.refl _ _), Lib.hid (by simp)⟩
  case round =>
    obtain ⟨k, hk, rfl, HB, HNo⟩ := hrel
    by_cases hlt : k < l.length
    · obtain ⟨A', c', en, _, _, hp⟩ := HandlersV.keep HL.out (Same.of_below HB.out)
      injection en with en1 en2 en3
      subst en1
      obtain ⟨b, off, rfl, hbB, hp⟩ := hp (by omega)
      obtain ⟨y, hy⟩ := getL hlt
      obtain ⟨f0, f1, f2, f3⟩ := hp k y hy
      have HY := Lib.hid hy
      have HC := Lib.hid (HP.out wr y (List.mem_of_getElem? hy) HB.out)
      clear hp hy en3
      obtain ⟨t, ht⟩ : ∃ t : Bool, t = q y := ⟨_, rfl⟩
      rw [← ht] at HC
      have HT := Lib.hid ht
      clear ht
      cases t with
      | true =>
        go_wp2_with (with_reducible refine HC.out.mono ?_; rintro e w2 ⟨rfl, hb2⟩; have HB2 := Lib.hid hb2; clear hb2)
        go_ret
        exact ⟨by rw [ixOf_found HNo.out HY.out HT.out.symm]; rfl, HB.out.trans (HB2.out.mono HB.out.size)⟩
      | false =>
        go_wp2_with (with_reducible refine HC.out.mono ?_; rintro e w2 ⟨rfl, hb2⟩; have HB2 := Lib.hid hb2; clear hb2)
        go_roundw
        case rel => exact ⟨k + 1, by omega, by go_num, Lib.hid (HB.out.trans (HB2.out.mono HB.out.size)), Lib.hid (take_no HNo.out HY.out HT.out.symm)⟩
        case measure => simp [intOf]; omega
    · go_wp2_with fail
      go_ret
      exact ⟨by rw [ixOf_none fun x hx => HNo.out x (by rw [List.take_of_length_le (by omega)]; exact hx)]; rfl, HB.out⟩

set_option maxRecDepth 100000 in
set_option maxHeartbeats 4000000 in
theorem ctHandler_any (w : World) (v : Value) (l : List HandlerP) (pf : Nat) (fs cs : Array Value) (q : HandlerP → Bool) (hl : HandlersV w w.heap.size v l) (hf : Enters pf)
    (hp : ∀ (wr : World) (x : HandlerP), x ∈ l → Below w.heap.size w wr → Calls Tryz.prog pf (fs.push (.agg #[.int .i64 x.from_, .int .i64 x.to_, .int .i64 x.at_, .int .i64 x.deep]) ++ cs) wr (fun e w' => e = .returned (.bool (q x)) ∧ Below wr.heap.size wr w')) (t : Bool) (ht : t = l.any q) :
    Calls Tryz.prog 156 #[v, .func (.func pf) fs cs] w (fun e w' => e = .returned (.bool t) ∧ Below w.heap.size w w') := by
  have HL := Lib.hid hl; have HP := Lib.hid hp; have HT := Lib.hid ht
  obtain ⟨A, c, rfl, _⟩ := hl
  clear hp ht
  go_enter Tryz.func156, Tryz.ntmps156
  go_wp2_with (go_at_call 173; refine (ixHandler_any w _ l pf fs cs q HL.out hf HP.out).mono ?_; rintro e w2 ⟨rfl, hb2⟩; have HB2 := Lib.hid hb2; clear hb2)
  go_ret
  exact ⟨by rw [HT.out, ← ixOf_any]; rfl, HB2.out⟩

set_option maxRecDepth 100000 in
set_option maxHeartbeats 4000000 in
theorem ixIns_any (w : World) (v : Value) (l : List InsP) (pf : Nat) (fs cs : Array Value) (q : InsP → Bool) (hl : InsesV w w.heap.size v l) (hf : Enters pf)
    (hp : ∀ (wr : World) (x : InsP), x ∈ l → Below w.heap.size w wr → Calls Tryz.prog pf (fs.push (.agg #[.int .u8 x.op, .int .i64 x.a]) ++ cs) wr (fun e w' => e = .returned (.bool (q x)) ∧ Below wr.heap.size wr w')) :
    Calls Tryz.prog 193 #[v, .func (.func pf) fs cs] w (fun e w' => e = .returned (.int .i64 (ixOf q l)) ∧ Below w.heap.size w w') := by
  have HL := Lib.hid hl; have HP := Lib.hid hp
  have hfr := hf
  unfold Enters at hfr
  obtain ⟨A, c, rfl, _hc, hlc, _⟩ := hl
  have hlim : l.length ≤ 17592186044416 := by unfold lim at hlc; omega
  clear hlc hp
  go_enter Tryz.func193, Tryz.ntmps193
  go_wp2_with fail
  go_loopw [8] (fun i wr => ∃ k : Nat, k ≤ l.length ∧ i = .int .i64 k ∧ Hid (Below w.heap.size w wr) ∧ Hid (∀ x ∈ l.take k, q x = false)) (fun i _ => l.length - (intOf i).toNat)
  case atStart => exact ⟨0, Nat.zero_le _, rfl, Lib.hid (Below.refl _ _), Lib.hid (by simp)⟩
  case round =>
    obtain ⟨k, hk, rfl, HB, HNo⟩ := hrel
    by_cases hlt : k < l.length
    · obtain ⟨A', c', en, _, _, hp⟩ := InsesV.keep HL.out (Same.of_below HB.out)
      injection en with en1 en2 en3
      subst en1
      obtain ⟨b, off, rfl, hbB, hp⟩ := hp (by omega)
      obtain ⟨y, hy⟩ := getL hlt
      obtain ⟨f0, f1, f2⟩ := hp k y hy
      have HY := Lib.hid hy
      have HC := Lib.hid (HP.out wr y (List.mem_of_getElem? hy) HB.out)
      clear hp hy en3
      obtain ⟨t, ht⟩ : ∃ t : Bool, t = q y := ⟨_, rfl⟩
      rw [← ht] at HC
      have HT := Lib.hid ht
      clear ht
      cases t with
      | true =>
        go_wp2_with (with_reducible refine HC.out.mono ?_; rintro e w2 ⟨rfl, hb2⟩; have HB2 := Lib.hid hb2; clear hb2)
        go_ret
        exact ⟨by rw [ixOf_found HNo.out HY.out HT.out.symm]; rfl, HB.out.trans (HB2.out.mono HB.out.size)⟩
      | false =>
        go_wp2_with (with_reducible refine HC.out.mono ?_; rintro e w2 ⟨rfl, hb2⟩; have HB2 := Lib.hid hb2; clear hb2)
        go_roundw
        case rel => exact ⟨k + 1, by omega, by go_num, Lib.hid (HB.out.trans (HB2.out.mono HB.out.size)), Lib.hid (take_no HNo.out HY.out HT.out.symm)⟩
        case measure => simp [intOf]; omega
    · go_wp2_with fail
      go_ret
      exact ⟨by rw [ixOf_none fun x hx => HNo.out x (by rw [List.take_of_length_le (by omega)]; exact hx)]; rfl, HB.out⟩

set_option maxRecDepth 100000 in
set_option maxHeartbeats 4000000 in
theorem ctIns_any (w : World) (v : Value) (l : List InsP) (pf : Nat) (fs cs : Array Value) (q : InsP → Bool) (hl : InsesV w w.heap.size v l) (hf : Enters pf)
    (hp : ∀ (wr : World) (x : InsP), x ∈ l → Below w.heap.size w wr → Calls Tryz.prog pf (fs.push (.agg #[.int .u8 x.op, .int .i64 x.a]) ++ cs) wr (fun e w' => e = .returned (.bool (q x)) ∧ Below wr.heap.size wr w')) (t : Bool) (ht : t = l.any q) :
    Calls Tryz.prog 178 #[v, .func (.func pf) fs cs] w (fun e w' => e = .returned (.bool t) ∧ Below w.heap.size w w') := by
  have HL := Lib.hid hl; have HP := Lib.hid hp; have HT := Lib.hid ht
  obtain ⟨A, c, rfl, _⟩ := hl
  clear hp ht
  go_enter Tryz.func178, Tryz.ntmps178
  go_wp2_with (go_at_call 193; refine (ixIns_any w _ l pf fs cs q HL.out hf HP.out).mono ?_; rintro e w2 ⟨rfl, hb2⟩; have HB2 := Lib.hid hb2; clear hb2)
  go_ret
  exact ⟨by rw [HT.out, ← ixOf_any]; rfl, HB2.out⟩
end Go.Proofs.YtkmfdiboekoioaaGreat
