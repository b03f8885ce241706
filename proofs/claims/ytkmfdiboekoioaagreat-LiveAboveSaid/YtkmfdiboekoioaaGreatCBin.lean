/- slices.BinarySearchFunc in a falling list, as verify asks it. Conditions: the numbers are small. -/
import Derived.Test.YtkmfdiboekoioaaGreatCIns
import Derived.Test.YtkmfdiboekoioaaGreatCVer6
set_option linter.unusedSimpArgs false
set_option linter.unusedVariables false
namespace Go.Proofs.YtkmfdiboekoioaaGreat
open Go.RowKit

theorem cmp_any (w : World) (x y : Int) (hx : 0 ≤ x ∧ x ≤ 1000000) (hy : 0 ≤ y ∧ y ≤ 1000000) : Calls Tryz.prog 131 #[.int .i64 x, .int .i64 y] w (fun e w' => e = .returned (.int .i64 (y - x)) ∧ w' = w) := by
  go_enter Tryz.func131, Tryz.ntmps131
  go_wp2_with fail
  go_ret
  exact ⟨rfl, rfl⟩
def Falling (l : List Int) : Prop := l.Pairwise (fun a b => b < a)
theorem Falling.lt {l : List Int} (h : Falling l) {j k : Nat} {x y : Int} (hx : l[j]? = some x) (hy : l[k]? = some y) (hjk : j < k) : y < x := by
  obtain ⟨h1, e1⟩ := List.getElem?_eq_some_iff.1 hx
  obtain ⟨h2, e2⟩ := List.getElem?_eq_some_iff.1 hy
  have := (List.pairwise_iff_getElem.1 h) j k h1 h2 hjk
  omega
theorem falls_lo {l : List Int} {m : Nat} {y t : Int} (hf : Falling l) (hy : l[m]? = some y) (ht : t < y) : ∀ k z, k < m + 1 → l[k]? = some z → t < z := fun k z hk hz => by
  rcases Nat.lt_or_ge k m with h | h
  · have := hf.lt hz hy h; omega
  · obtain rfl : k = m := by omega
    rw [hy] at hz; injection hz with hz; omega
theorem falls_hi {l : List Int} {m : Nat} {y t : Int} (hf : Falling l) (hy : l[m]? = some y) (ht : y ≤ t) : ∀ k z, m ≤ k → l[k]? = some z → z ≤ t := fun k z hk hz => by
  rcases Nat.lt_or_ge m k with h | h
  · have := hf.lt hy hz h; omega
  · obtain rfl : k = m := by omega
    rw [hy] at hz; injection hz with hz; omega
theorem insK_at {l : List Int} {t : Int} {a : Nat} (h1 : ∀ k y, k < a → l[k]? = some y → t < y) (h2 : ∀ k y, a ≤ k → l[k]? = some y → y ≤ t) (ha : a ≤ l.length) : insK l t = a := by
  unfold insK
  have e : l.takeWhile (fun y => decide (t < y)) = l.take a := by
    have hl : l = l.take a ++ l.drop a := (List.take_append_drop a l).symm
    have hp : ∀ y ∈ l.take a, (fun y => decide (t < y)) y = true := fun y hy => by
      obtain ⟨k, hk⟩ := List.mem_iff_getElem?.1 hy
      rw [List.getElem?_take] at hk
      split at hk
      · simpa using h1 k y (by assumption) hk
      · cases hk
    rw [hl, List.takeWhile_append_of_pos hp, ← hl]
    have hd : (l.drop a).takeWhile (fun y => decide (t < y)) = [] := by
      cases hc : l.drop a with
      | nil => rfl
      | cons z r =>
        have hz : l[a]? = some z := by
          have := congrArg (fun q => q[0]?) hc
          simpa [List.getElem?_drop] using this
        have := h2 a z (Nat.le_refl _) hz
        rw [List.takeWhile_cons, if_neg (by simp; omega)]
    rw [hd, List.append_nil]
  rw [e, List.length_take]; omega
set_option maxRecDepth 100000 in
set_option maxHeartbeats 8000000 in
theorem bsearch_any (w : World) (v : Value) (l : List Int) (t : Int) (hl : IntsV w w.heap.size v l) (hf : Falling l) (hb : ∀ x ∈ l, 0 ≤ x ∧ x ≤ 1000000) (ht : 0 ≤ t ∧ t ≤ 1000000) :
    Calls Tryz.prog 130 #[v, .int .i64 t, .func (.func 131) #[] #[]] w (fun e w' => (∃ b, e = .returned (.tuple #[.int .i64 (insK l t), .bool b])) ∧ w' = w) := by
  obtain ⟨A, c, rfl, _hc, hlc, hl⟩ := hl
  have hlim : l.length ≤ 17592186044416 := by unfold lim at hlc; omega
  have HW := Lib.hid hl; have HF := Lib.hid hf; have HB := Lib.hid hb
  clear hl hlc hf hb
  go_enter Tryz.func130, Tryz.ntmps130
  go_wp2_with fail
  go_loopw [9, 10] (fun i j wr => ∃ a b : Nat, a ≤ b ∧ b ≤ l.length ∧ i = .int .i64 a ∧ j = .int .i64 b ∧ wr = w ∧ Hid (∀ k y, k < a → l[k]? = some y → t < y) ∧ Hid (∀ k y, b ≤ k → l[k]? = some y → y ≤ t)) (fun i j _ => (intOf j).toNat - (intOf i).toNat)
  case atStart => exact ⟨0, l.length, Nat.zero_le _, Nat.le_refl _, rfl, rfl, rfl, Lib.hid (fun k y h => by omega), Lib.hid (fun k y h hy => by have := (List.getElem?_eq_some_iff.1 hy).1; omega)⟩
  case round =>
    obtain ⟨a, b, hab, hbl, rfl, rfl, rfl, HLo, HHi⟩ := hrel
    by_cases hlt : a < b
    · obtain ⟨m, hm⟩ : ∃ m : Nat, m = (a + b) / 2 := ⟨_, rfl⟩
      have hml : m < l.length := by omega
      obtain ⟨bl, off, rfl, hbB, hp⟩ := HW.out (by omega)
      obtain ⟨y, hy⟩ := getL hml
      have f0 := hp m y hy
      have HY := Lib.hid hy
      have hyb := HB.out y (List.mem_of_getElem? hy)
      clear hp hy
      rw [hm] at f0
      by_cases hty : t < y
      · go_wp2_with (go_at_call 131; refine (cmp_any wr y t hyb ht).mono ?_; rintro e w' ⟨rfl, hw'⟩; have hw2 := hw'.symm; subst hw2)
        go_roundw
        case rel => exact ⟨m + 1, b, by omega, hbl, by congr 1; omega, rfl, trivial, Lib.hid (falls_lo HF.out HY.out hty), HHi⟩
        case measure => simp [intOf]; omega
      · go_wp2_with (go_at_call 131; refine (cmp_any wr y t hyb ht).mono ?_; rintro e w' ⟨rfl, hw'⟩; have hw2 := hw'.symm; subst hw2)
        go_roundw
        case rel => exact ⟨a, m, by omega, by omega, rfl, by congr 1; omega, trivial, HLo, Lib.hid (falls_hi HF.out HY.out (by omega))⟩
        case measure => simp [intOf]; omega
    · obtain rfl : a = b := by omega
      have HK : Hid (insK l t = a) := Lib.hid (insK_at HLo.out HHi.out hbl)
      by_cases hin : a < l.length
      · obtain ⟨bl, off, rfl, hbB, hp⟩ := HW.out (by omega)
        obtain ⟨y, hy⟩ := getE hin
        have f0 := hp a y hy
        have hyb := HB.out y (List.mem_of_getElem? hy)
        clear hp hy
        go_wp2_with (go_at_call 131; refine (cmp_any wr y t hyb ht).mono ?_; rintro e w' ⟨rfl, hw'⟩; have hw2 := hw'.symm; subst hw2)
        all_goals first
          | (first | go_ret | go_ret2)
            exact ⟨⟨_, by rw [HK.out]; rfl⟩, rfl⟩
      · go_wp2_with fail
        all_goals first
          | (first | go_ret | go_ret2)
            exact ⟨⟨_, by rw [HK.out]; rfl⟩, rfl⟩
end Go.Proofs.YtkmfdiboekoioaaGreat

/- verify.depths in plain Lean: what a step keeps, and that it ends. No condition. -/
namespace Go.Proofs.YtkmfdiboekoioaaGreat
open Go.RowKit

theorem insAt_mem {l : List Int} {x y : Int} : y ∈ insAt l x ↔ y = x ∨ y ∈ l := by
  unfold insAt
  rw [List.mem_append, List.mem_cons]
  constructor
  · rintro (h | h | h)
    · exact .inr (List.mem_of_mem_take h)
    · exact .inl h
    · exact .inr (List.mem_of_mem_drop h)
  · rintro (h | h)
    · exact .inr (.inl h)
    · have : y ∈ l.take (insK l x) ++ l.drop (insK l x) := by rw [List.take_append_drop]; exact h
      rcases List.mem_append.1 this with h | h
      · exact .inl h
      · exact .inr (.inr h)
theorem takeWhile_take {α : Type} (p : α → Bool) : ∀ l : List α, l.take (l.takeWhile p).length = l.takeWhile p
  | [] => rfl
  | a :: l => by
    by_cases h : p a = true
    · simp [List.takeWhile_cons, h, takeWhile_take p l]
    · simp [List.takeWhile_cons, h]
theorem drop_takeWhile {α : Type} (p : α → Bool) : ∀ l : List α, l.drop (l.takeWhile p).length = l.dropWhile p
  | [] => rfl
  | a :: l => by
    by_cases h : p a = true
    · simp [List.takeWhile_cons, List.dropWhile_cons, h, drop_takeWhile p l]
    · simp [List.takeWhile_cons, List.dropWhile_cons, h]
theorem insAt_falling {l : List Int} {x : Int} (hf : Falling l) (hx : x ∉ l) : Falling (insAt l x) := by
  unfold insAt insK Falling
  rw [takeWhile_take, drop_takeWhile]
  have hsub : (l.dropWhile fun y => decide (x < y)).Sublist l := List.dropWhile_sublist _
  rw [List.pairwise_append, List.pairwise_cons]
  have hd : ∀ b ∈ l.dropWhile (fun y => decide (x < y)), b < x := by
    intro b hb
    have hbl := hsub.subset hb
    cases hc : l.dropWhile (fun y => decide (x < y)) with
    | nil => rw [hc] at hb; cases hb
    | cons z r =>
      have hz : ¬ x < z := by
        have := List.head_dropWhile_not (fun y => decide (x < y)) (l := l) (by rw [hc]; simp)
        simpa [hc] using this
      have hzl : z ∈ l := hsub.subset (by rw [hc]; simp)
      have hzx : z ≠ x := fun e => hx (e ▸ hzl)
      rw [hc] at hb
      have hpw : (z :: r).Pairwise (fun a b => b < a) := hc ▸ hf.sublist hsub
      rcases List.mem_cons.1 hb with rfl | hb
      · omega
      · have := (List.pairwise_cons.1 hpw).1 b hb; omega
  refine ⟨hf.sublist (List.takeWhile_sublist _), ⟨hd, hf.sublist hsub⟩, fun a ha b hb => ?_⟩
  have ha' : x < a := by
    have := List.all_takeWhile (p := fun y => decide (x < y)) (l := l)
    have := List.all_eq_true.1 this a ha
    simpa using this
  rcases List.mem_cons.1 hb with rfl | hb
  · exact ha'
  · have := hd b hb; omega

def negs (l : List Int) : Nat := l.countP (fun x => decide (x < 0))
structure DInv (n : Nat) (s : DSt) : Prop where
  len : s.told.length = n
  fall : Falling s.todo
  rng : ∀ x ∈ s.todo, 0 ≤ x ∧ x < (n : Int) ∧ 0 ≤ s.told.getD x.toNat 0
  deep : ∀ x ∈ s.told, -1 ≤ x ∧ x ≤ 257
theorem negs_set {l : List Int} {k : Nat} {d : Int} (hk : k < l.length) (hneg : l.getD k 0 < 0) (hd : 0 ≤ d) : negs (l.set k d) + 1 = negs l := by
  unfold negs
  have e : l = l.take k ++ l[k] :: l.drop (k + 1) := by rw [List.getElem_cons_drop hk, List.take_append_drop]
  have e2 : l.set k d = l.take k ++ d :: l.drop (k + 1) := by rw [List.set_eq_take_append_cons_drop, if_pos hk]
  rw [List.getD_eq_getElem?_getD, List.getElem?_eq_getElem hk, Option.getD_some] at hneg
  rw [e2]
  conv => rhs; rw [e]
  simp only [List.countP_append, List.countP_cons]
  have h1 : decide (d < 0) = false := by simp; omega
  have h2 : decide (l[k] < 0) = true := by simp; omega
  rw [h1, h2]; simp; omega
theorem insAt_len (l : List Int) (x : Int) : (insAt l x).length = l.length + 1 := by
  unfold insAt
  have : insK l x ≤ l.length := by unfold insK; exact (List.takeWhile_sublist _).length_le
  simp; omega
theorem tellD_inv {n : Nat} {s : DSt} {at_ deep : Int} (h : DInv n s) (ha : 0 ≤ at_ ∧ at_ < (n : Int)) (hd : 0 ≤ deep ∧ deep ≤ 257) :
    DInv n (tellD at_ deep s) ∧ negs (tellD at_ deep s).told + (tellD at_ deep s).todo.length = negs s.told + s.todo.length := by
  have hat : at_.toNat < s.told.length := by rw [h.len]; omega
  unfold tellD
  by_cases hn : s.told.getD at_.toNat 0 < 0
  · rw [if_pos hn]
    have hnot : at_ ∉ s.todo := fun hm => by have := (h.rng at_ hm).2.2; omega
    have hset : ∀ k : Nat, (s.told.set at_.toNat deep).getD k 0 = if k = at_.toNat then deep else s.told.getD k 0 := fun k => by
      rw [List.getD_eq_getElem?_getD, List.getElem?_set]
      by_cases hk : at_.toNat = k
      · subst hk; simp [hat]
      · simp only [hk, if_false]
        rw [if_neg (fun e => hk e.symm), List.getD_eq_getElem?_getD]
    refine ⟨⟨by simpa using h.len, insAt_falling h.fall hnot, fun x hx => ?_, fun x hx => ?_⟩, ?_⟩
    · simp only
      rw [hset]
      rcases insAt_mem.1 hx with rfl | hx
      · rw [if_pos rfl]; exact ⟨ha.1, ha.2, hd.1⟩
      · obtain ⟨q1, q2, q3⟩ := h.rng x hx
        refine ⟨q1, q2, ?_⟩
        split
        · exact hd.1
        · exact q3
    · rcases List.mem_or_eq_of_mem_set hx with hx | rfl
      · exact h.deep x hx
      · omega
    · simp only
      rw [insAt_len]
      have := negs_set hat hn hd.1
      omega
  · rw [if_neg hn]
    exact ⟨⟨h.len, h.fall, h.rng, h.deep⟩, rfl⟩
theorem handD_inv {n : Nat} (pc d : Int) : ∀ (l : List HandlerP) (s s' : DSt), DInv n s → (∀ h ∈ l, handlerB n h = true) → handD pc d l s = some s' → DInv n s' ∧ negs s'.told + s'.todo.length = negs s.told + s.todo.length
  | [], s, s', hi, _, h => by
    simp only [handD, Option.some.injEq] at h
    subst h; exact ⟨hi, rfl⟩
  | q :: r, s, s', hi, hb, h => by
    have hq := hb q (by simp)
    unfold handlerB at hq
    simp only [Bool.and_eq_true, decide_eq_true_eq] at hq
    obtain ⟨⟨⟨⟨h1, h2⟩, h3⟩, h4⟩, h5⟩ := hq
    have h6 := (isB_iff _ _ _).1 h5
    unfold handD at h
    split at h
    · split at h
      · cases h
      · obtain ⟨t1, t2⟩ := tellD_inv hi (at_ := q.at_) (deep := q.deep + 1) ⟨by omega, h4⟩ ⟨by omega, by omega⟩
        obtain ⟨u1, u2⟩ := handD_inv pc d r _ s' t1 (fun h hh => hb h (by simp [hh])) h
        exact ⟨u1, u2.trans t2⟩
    · exact handD_inv pc d r s s' hi (fun h hh => hb h (by simp [hh])) h

theorem row_leaves (o : Nat) : 0 ≤ (rowOf (o : Int)).leaves ∧ 0 ≤ (rowOf (o : Int)).takes ∧ 0 ≤ (rowOf (o : Int)).times ∧ (rowOf (o : Int)).leaves ≤ 2 ∧ (rowOf (o : Int)).takes ≤ 3 ∧ (rowOf (o : Int)).times ≤ 2 := by
  rw [rowOf_nat]
  by_cases h : o < 31
  · have : ∀ o : Fin 31, 0 ≤ (rowsP.getD o.val ⟨0, 0, 0, 0⟩).leaves ∧ 0 ≤ (rowsP.getD o.val ⟨0, 0, 0, 0⟩).takes ∧ 0 ≤ (rowsP.getD o.val ⟨0, 0, 0, 0⟩).times ∧ (rowsP.getD o.val ⟨0, 0, 0, 0⟩).leaves ≤ 2 ∧ (rowsP.getD o.val ⟨0, 0, 0, 0⟩).takes ≤ 3 ∧ (rowsP.getD o.val ⟨0, 0, 0, 0⟩).times ≤ 2 := by decide
    exact this ⟨o, h⟩
  · have hl : rowsP.length = 31 := rfl
    rw [List.getD_eq_getElem?_getD, List.getElem?_eq_none (by omega)]
    decide
theorem numB_jump {np : Nat} {f : FnP} {pc : Nat} {i : InsP} (h : numB np f pc i = true) (ho : i.op = 19 ∨ i.op = 20 ∨ i.op = 21) (hpc : pc < f.code.length) : 0 ≤ i.a ∧ i.a < (f.code.length : Int) := by
  unfold numB at h
  rcases ho with ho | ho | ho
  · rw [ho, show (rowOf 19).a = 5 by decide] at h
    simp only [Bool.and_eq_true] at h
    have := (isB_iff _ _ _).1 h.2; omega
  · rw [ho, show (rowOf 20).a = 5 by decide] at h
    simp only [Bool.and_eq_true] at h
    have := (isB_iff _ _ _).1 h.2; omega
  · rw [ho, show (rowOf 21).a = 6 by decide] at h
    simp only [Bool.and_eq_true] at h
    have := (isB_iff _ _ _).1 h.2; omega
theorem endD_inv {np : Nat} {f : FnP} {pc : Nat} {i : InsP} {d : Int} {s : DSt} (hn : numB np f pc i = true) (hl : lastB f pc i = false) (hpc : pc < f.code.length) (hd : 0 ≤ d ∧ d ≤ 257) (hi : DInv f.code.length s) :
    DInv f.code.length (endD i.op i.a pc d s) ∧ negs (endD i.op i.a pc d s).told + (endD i.op i.a pc d s).todo.length = negs s.told + s.todo.length := by
  have hnext : ¬ (i.op = 28 ∨ i.op = 29) → ¬ i.op = 21 → (pc : Int) + 1 < (f.code.length : Int) := fun h1 h2 => by
    unfold lastB at hl
    by_cases hc : pc + 1 = f.code.length
    · rw [decide_eq_true hc, decide_eq_true (show i.op ≠ 28 from fun e => h1 (.inl e)), decide_eq_true (show i.op ≠ 29 from fun e => h1 (.inr e)), decide_eq_true (show i.op ≠ 21 from h2)] at hl
      cases hl
    · omega
  unfold endD
  split
  · exact ⟨hi, rfl⟩
  · rename_i h1
    split
    · rename_i h2
      exact tellD_inv hi (numB_jump hn (by omega) hpc) hd
    · rename_i h2
      have hx := hnext h1 (fun e => h2 (.inr e))
      obtain ⟨t1, t2⟩ := tellD_inv hi (at_ := (pc : Int) + 1) (deep := d) ⟨by omega, hx⟩ hd
      split
      · rename_i h3
        obtain ⟨u1, u2⟩ := tellD_inv t1 (numB_jump hn (by omega) hpc) hd
        exact ⟨u1, u2.trans t2⟩
      · exact ⟨t1, t2⟩
theorem stepD_inv {np : Nat} {f : FnP} {pc : Nat} {i : InsP} {told todo : List Int} {s' : DSt} (hi : f.code[pc]? = some i) (hn : numB np f pc i = true) (hl : lastB f pc i = false) (hh : ∀ h ∈ f.handlers, handlerB f.code.length h = true)
    (hinv : DInv f.code.length ⟨told, todo, true⟩) (h : stepD f pc i told todo = some s') : DInv f.code.length s' ∧ negs s'.told + s'.todo.length = negs told + todo.length := by
  have hpc := (List.getElem?_eq_some_iff.1 hi).1
  unfold stepD at h
  split at h
  · cases h
  · rename_i hc
    have hop : 0 ≤ i.op := by
      unfold numB at hn
      simp only [Bool.and_eq_true] at hn
      have := (isB_iff _ _ _).1 hn.1; omega
    obtain ⟨o, ho⟩ : ∃ o : Nat, i.op = (o : Int) := ⟨i.op.toNat, by omega⟩
    have hr := row_leaves o
    rw [← ho] at hr
    cases hm : handD pc (deepD told pc i) f.handlers ⟨told, todo, true⟩ with
    | none => rw [hm] at h; cases h
    | some s1 =>
      rw [hm] at h
      simp only [Option.map_some, Option.some.injEq] at h
      subst h
      obtain ⟨t1, t2⟩ := handD_inv (pc : Int) _ _ _ _ hinv hh hm
      obtain ⟨u1, u2⟩ := endD_inv hn hl hpc (d := deepD told pc i + (rowOf i.op).leaves) ⟨by omega, by omega⟩ t1
      exact ⟨u1, u2.trans t2⟩
end Go.Proofs.YtkmfdiboekoioaaGreat

/- The memory of verify.depths: three boxes, and what turns when a depth is told. Conditions: the three boxes hold the state. -/
namespace Go.Proofs.YtkmfdiboekoioaaGreat
open Go.RowKit

/-- Only these blocks turn; the rest is as it was. -/
structure Turn4 (S : Nat → Prop) (w w' : World) : Prop where
  os : w'.os = w.os
  tape : w'.tape = w.tape
  output : w'.output = w.output
  size : w.heap.size ≤ w'.heap.size
  block : ∀ k, k < w.heap.size → ¬ S k → w'.heap[k]? = w.heap[k]?
theorem Turn4.refl (S : Nat → Prop) (w : World) : Turn4 S w w := ⟨rfl, rfl, rfl, Nat.le_refl _, fun _ _ _ => rfl⟩
theorem Turn4.trans {S S' : Nat → Prop} {a b c : World} (h : Turn4 S a b) (k : Turn4 S' b c) (hs : ∀ x, S' x → S x ∨ a.heap.size ≤ x) : Turn4 S a c :=
  ⟨k.os.trans h.os, k.tape.trans h.tape, k.output.trans h.output, Nat.le_trans h.size k.size, fun i hi hn =>
    (k.block i (Nat.lt_of_lt_of_le hi h.size) (fun hc => by rcases hs i hc with q | q; exact hn q; omega)).trans (h.block i hi hn)⟩
theorem Turn4.of_below {S : Nat → Prop} {w w' : World} (h : Below w.heap.size w w') : Turn4 S w w' := ⟨h.os, h.tape, h.output, h.size, fun k hk _ => h.block k hk⟩
theorem Turn4.of_grown {S : Nat → Prop} {w w' : World} {r : Option Nat} (h : w.grownBy w' r) (hr : ∀ k, r = some k → S k) : Turn4 S w w' := ⟨h.os, h.tape, h.output, h.size, fun k hk hn => h.block k hk (fun e => hn (hr k e.symm))⟩
theorem Turn4.below {S : Nat → Prop} {w w' : World} {B : Nat} (h : Turn4 S w w') (hB : B ≤ w.heap.size) (hs : ∀ k, S k → B ≤ k) : Below B w w' := ⟨h.os, h.tape, h.output, h.size, fun k hk => h.block k (by omega) (fun c => by have := hs k c; omega)⟩
theorem Turn4.blk {S : Nat → Prop} {w w' : World} {b : Nat} {t : TypeId} {cs : Array Value} (h : Turn4 S w w') (hb : Blk w b t cs) (hn : ¬ S b) : Blk w' b t cs := (h.block b hb.lt hn).trans hb
theorem Turn4.map {S : Nat → Prop} {w w' : World} {r : Nat} {m : FMap} (h : Turn4 S w w') (hm : IMap w r m) (hn : ¬ S r) : IMap w' r m := by
  obtain ⟨es, c, hh, hd⟩ := hm
  have hl : r < w.heap.size := (Array.getElem?_eq_some_iff.1 hh).1
  exact ⟨es, c, (h.block r hl hn).trans hh, hd⟩
theorem Blk.ne {w : World} {a b : Nat} {t t' : TypeId} {cs cs' : Array Value} (h : Blk w a t cs) (k : Blk w b t' cs') (ht : t ≠ t') : a ≠ b := fun e => by
  subst e
  unfold Blk at h k
  rw [h] at k
  injection k with k
  injection k with _ k _
  exact ht k

theorem ow_ne_blk {w : World} {base : Nat} {v : Value} {l : List Int} {b : Nat} {t : TypeId} {cs : Array Value} (h : OwnInts w base v l) (hb : Blk w b t cs) (ht : t ≠ 3) : v.ownBlock ≠ some b := by
  rcases h.2 with ⟨rfl, _⟩ | ⟨g, cap, cur, rfl, _, hgb, _⟩
  · simp [Value.ownBlock]
  · intro e'
    obtain rfl : g = b := by simpa [Value.ownBlock] using e'
    unfold Blk at hb
    rw [hb] at hgb
    injection hgb with e
    injection e with _ e _
    exact ht e
theorem ow_ne_map {w : World} {base r : Nat} {v : Value} {l : List Int} {m : FMap} (h : OwnInts w base v l) (hm : IMap w r m) : v.ownBlock ≠ some r := by
  rcases h.2 with ⟨rfl, _⟩ | ⟨g, cap, cur, rfl, _, hgb, _⟩
  · simp [Value.ownBlock]
  · intro e'
    obtain rfl : g = r := by simpa [Value.ownBlock] using e'
    obtain ⟨es, c, hh, _⟩ := hm
    rw [hh] at hgb; cases hgb
theorem ow_kept {w w' : World} {base : Nat} {v : Value} {l : List Int} {row : Option Nat} (h : OwnInts w base v l) (hg : w.grownBy w' row) (hne : v.ownBlock = none ∨ v.ownBlock ≠ row) : OwnInts w' base v l := World.ownsRow.kept h hg hne
theorem ow_below {w w' : World} {base : Nat} {v : Value} {l : List Int} (h : OwnInts w base v l) (hb : Below w.heap.size w w') : OwnInts w' base v l := by
  cases hv : v.ownBlock with
  | none => exact ow_kept h (row := none) ⟨hb.os, hb.tape, hb.output, hb.size, fun k hk _ => hb.block k hk⟩ (.inl hv)
  | some b => exact ow_kept h (row := none) ⟨hb.os, hb.tape, hb.output, hb.size, fun k hk _ => hb.block k hk⟩ (.inr (by rw [hv]; simp))
theorem grown_set (W : World) (b k : Nat) (v : Value) : W.grownBy (W.setCell ⟨b, k, none⟩ v) (some b) :=
  ⟨rfl, rfl, rfl, by simp [World.setCell], fun i _ hne => Below.heap_setCell W ⟨b, k, none⟩ v i (fun q => hne (by rw [q]))⟩

/-- The three boxes: told (its row gt), todo (its value qv), ok. -/
structure TMem (base bt bq bo gt ct : Nat) (qv : Value) (s : DSt) (W : World) : Prop where
  tb : Blk W bt 34 #[.slice (some ⟨gt, 0, none⟩) s.told.length ct]
  tr : OwnInts W base (.slice (some ⟨gt, 0, none⟩) s.told.length ct) s.told
  qb : Blk W bq 34 #[qv]
  qr : OwnInts W base qv s.todo
  ob : Blk W bo 4 #[.bool s.ok]
  ne : qv.ownBlock ≠ some gt
  n2 : bt ≠ bq
  hbt : base ≤ bt
  hbq : base ≤ bq
  hbo : base ≤ bo
  hbW : base ≤ W.heap.size
section
variable {base bt bq bo gt ct k : Nat} {qv : Value} {s : DSt} {W W' : World}
theorem TMem.tell (h : TMem base bt bq bo gt ct qv s W) : ∃ cur : Array Value, W.heap[gt]? = some (.cells cur 3 (0, 0)) ∧ base ≤ gt ∧ s.told.length ≤ ct ∧ ct ≤ maxLen ∧ cur.size = ct ∧ cur.toList.take s.told.length = s.told.map (Value.int .i64) := by
  obtain ⟨_, ⟨e, _⟩ | ⟨g, cap, cur, e, hbg, hb, hc, hm, hs, ht⟩⟩ := h.tr
  · cases e
  · injection e with e1 e2 e3
    injection e1 with e1
    injection e1 with e1
    subst e1 e3
    exact ⟨cur, hb, hbg, hc, hm, by simpa using hs, by simpa using ht⟩
/-- The blocks that turn when a depth is told. -/
def tS (gt bq bo : Nat) (qv : Value) (k : Nat) : Prop := k = gt ∨ k = bq ∨ k = bo ∨ qv.ownBlock = some k
theorem TMem.low (h : TMem base bt bq bo gt ct qv s W) (hk : tS gt bq bo qv k) : base ≤ k := by
  obtain ⟨_, _, hg, _⟩ := h.tell
  rcases hk with rfl | rfl | rfl | hk
  · exact hg
  · exact h.hbq
  · exact h.hbo
  · exact (World.ownsRow.lt h.qr k hk).1
theorem TMem.not_blk (h : TMem base bt bq bo gt ct qv s W) {t : TypeId} {cs : Array Value} (hb : Blk W k t cs) (h1 : t ≠ 3) (h2 : t ≠ 34) (h3 : t ≠ 4) : ¬ tS gt bq bo qv k := fun hk => by
  rcases hk with rfl | rfl | rfl | hk
  · exact ow_ne_blk h.tr hb h1 rfl
  · exact Blk.ne hb h.qb h2 rfl
  · exact Blk.ne hb h.ob h3 rfl
  · exact ow_ne_blk h.qr hb h1 hk
theorem TMem.not_map (h : TMem base bt bq bo gt ct qv s W) {m : FMap} (hb : IMap W k m) : ¬ tS gt bq bo qv k := fun hk => by
  rcases hk with rfl | rfl | rfl | hk
  · obtain ⟨cur, hc, _⟩ := h.tell
    obtain ⟨es, c, hh, _⟩ := hb
    rw [hc] at hh; cases hh
  · have hc := h.qb
    unfold Blk at hc
    obtain ⟨es, c, hh, _⟩ := hb
    rw [hc] at hh; cases hh
  · have hc := h.ob
    unfold Blk at hc
    obtain ⟨es, c, hh, _⟩ := hb
    rw [hc] at hh; cases hh
  · exact ow_ne_map h.qr hb hk
theorem TMem.below (h : TMem base bt bq bo gt ct qv s W) (hb : Below W.heap.size W W') : TMem base bt bq bo gt ct qv s W' :=
  ⟨h.tb.below hb h.tb.lt, ow_below h.tr hb, h.qb.below hb h.qb.lt, ow_below h.qr hb, h.ob.below hb h.ob.lt, h.ne, h.n2, h.hbt, h.hbq, h.hbo, Nat.le_trans h.hbW hb.size⟩
theorem TMem.setOk (h : TMem base bt bq bo gt ct qv s W) (t : Bool) : TMem base bt bq bo gt ct qv ⟨s.told, s.todo, t⟩ (W.setCell ⟨bo, 0, none⟩ (.bool t)) ∧ Turn4 (tS gt bq bo qv) W (W.setCell ⟨bo, 0, none⟩ (.bool t)) := by
  have hg := grown_set W bo 0 (.bool t)
  refine ⟨⟨h.tb.far (p := ⟨bo, 0, none⟩) (Blk.ne h.tb h.ob (by decide)) _, ow_kept h.tr hg (.inr (ow_ne_blk h.tr h.ob (by decide))), h.qb.far (p := ⟨bo, 0, none⟩) (Blk.ne h.qb h.ob (by decide)) _,
    ow_kept h.qr hg (.inr (ow_ne_blk h.qr h.ob (by decide))), ?_, h.ne, h.n2, h.hbt, h.hbq, h.hbo, Nat.le_trans h.hbW hg.size⟩, Turn4.of_grown hg (fun k e => by injection e with e; exact .inr (.inr (.inl e.symm)))⟩
  exact h.ob.set_ 0 (.bool t)
theorem TMem.setTold (h : TMem base bt bq bo gt ct qv s W) (d : Int) (hk : k < s.told.length) : TMem base bt bq bo gt ct qv ⟨s.told.set k d, s.todo, s.ok⟩ (W.setCell ⟨gt, k, none⟩ (.int .i64 d)) ∧ Turn4 (tS gt bq bo qv) W (W.setCell ⟨gt, k, none⟩ (.int .i64 d)) := by
  have hg := grown_set W gt k (.int .i64 d)
  obtain ⟨cur, hb, hbg, hc, hm, hs, ht⟩ := h.tell
  have n1 : gt ≠ bt := fun e => ow_ne_blk h.tr h.tb (by decide) (congrArg some e)
  have n3 : gt ≠ bq := fun e => ow_ne_blk h.tr h.qb (by decide) (congrArg some e)
  have n4 : gt ≠ bo := fun e => ow_ne_blk h.tr h.ob (by decide) (congrArg some e)
  refine ⟨⟨?_, ?_, h.qb.far (p := ⟨gt, k, none⟩) (Ne.symm n3) _, ow_kept h.qr hg (.inr h.ne), h.ob.far (p := ⟨gt, k, none⟩) (Ne.symm n4) _, h.ne, h.n2, h.hbt, h.hbq, h.hbo, Nat.le_trans h.hbW hg.size⟩, Turn4.of_grown hg (fun k e => by injection e with e; exact .inl e.symm)⟩
  · simp only [List.length_set]
    exact h.tb.far (p := ⟨gt, k, none⟩) (Ne.symm n1) _
  · simp only [List.length_set]
    refine own_set (cur := cur.setIfInBounds k (.int .i64 d)) (by simp) (by simp [World.setCell, Array.getElem?_modify, hb]) hbg hc hm (by simpa using hs) ?_
    rw [Array.toList_setIfInBounds, List.take_set, ht, List.map_set]
theorem TMem.put (h : TMem base bt bq bo gt ct qv s W) {v' : Value} {l' : List Int} (hown : OwnInts W' base v' l') (hg : W.grownBy W' qv.ownBlock) (hv : v'.ownBlock = qv.ownBlock ∨ v'.ownBlock = some W.heap.size) :
    TMem base bt bq bo gt ct v' ⟨s.told, l', s.ok⟩ (W'.setCell ⟨bq, 0, none⟩ v') ∧ Turn4 (tS gt bq bo qv) W (W'.setCell ⟨bq, 0, none⟩ v') := by
  have hg2 := grown_set W' bq 0 v'
  have hq' : Blk W' bq 34 #[qv] := h.qb.grown hg (fun e => ow_ne_blk h.qr h.qb (by decide) e.symm)
  have ht' : Blk W' bt 34 #[.slice (some ⟨gt, 0, none⟩) s.told.length ct] := h.tb.grown hg (fun e => ow_ne_blk h.qr h.tb (by decide) e.symm)
  have ho' : Blk W' bo 4 #[.bool s.ok] := h.ob.grown hg (fun e => ow_ne_blk h.qr h.ob (by decide) e.symm)
  have hr' : OwnInts W' base (.slice (some ⟨gt, 0, none⟩) s.told.length ct) s.told := ow_kept h.tr hg (.inr (fun e => h.ne e.symm))
  have hgl := (World.ownsRow.lt h.tr gt rfl).2
  refine ⟨⟨ht'.far (p := ⟨bq, 0, none⟩) h.n2 _, ow_kept hr' hg2 (.inr (ow_ne_blk hr' hq' (by decide))), hq'.set_ 0 v', ow_kept hown hg2 (.inr (ow_ne_blk hown hq' (by decide))), ho'.far (p := ⟨bq, 0, none⟩) (Ne.symm (Blk.ne hq' ho' (by decide))) _, ?_, h.n2, h.hbt, h.hbq, h.hbo, Nat.le_trans h.hbW (Nat.le_trans hg.size hg2.size)⟩, ?_⟩
  · rcases hv with hv | hv
    · rw [hv]; exact h.ne
    · rw [hv]; intro e; injection e with e; omega
  · exact (Turn4.of_grown hg (fun k e => .inr (.inr (.inr e)))).trans (Turn4.of_grown hg2 (S := fun k => k = bq) (fun k e => by injection e with e; exact e.symm)) (fun x hx => .inl (.inr (.inl hx)))
end
end Go.Proofs.YtkmfdiboekoioaaGreat

/- verify.depths' inner function tell: a depth told. Conditions: the three boxes hold the state. -/
namespace Go.Proofs.YtkmfdiboekoioaaGreat
open Go.RowKit
def TellIs (base bt bq bo gt ct : Nat) (qv : Value) (s : DSt) (w : World) (e : Ending) (w' : World) : Prop :=
  e = .returned (.tuple #[]) ∧ ∃ qv', TMem base bt bq bo gt ct qv' s w' ∧ Turn4 (tS gt bq bo qv) w w' ∧ (qv'.ownBlock = qv.ownBlock ∨ ∃ j, qv'.ownBlock = some j ∧ w.heap.size ≤ j)
theorem TMem.at_ {base bt bq bo gt ct : Nat} {qv : Value} {s : DSt} {w : World} {k : Nat} (h : TMem base bt bq bo gt ct qv s w) (hk : k < s.told.length) : w.cell? ⟨gt, k, none⟩ = some (.int .i64 (s.told.getD k 0)) ∧ w.frozen? ⟨gt, k, none⟩ = false := by
  obtain ⟨cur, hb, hbg, hc, hm, hs, ht⟩ := h.tell
  constructor
  · rw [cell_of_row w gt k cur _ (0, 0) hb]
    have h1 : (cur.toList.take s.told.length)[k]? = (s.told.map (Value.int .i64))[k]? := by rw [ht]
    rw [List.getElem?_take, if_pos hk] at h1
    rw [← Array.getElem?_toList, h1]
    simp [hk, List.getD_eq_getElem?_getD]
  · simp [World.frozen?, hb]

theorem ow_form {w : World} {base : Nat} {v : Value} {l : List Int} (h : OwnInts w base v l) : ∃ A c, v = .slice A l.length c := by
  rcases h.2 with ⟨rfl, h0⟩ | ⟨g, cap, cur, rfl, _⟩
  · exact ⟨none, 0, by rw [h0]⟩
  · exact ⟨_, _, rfl⟩
theorem told_ok {base bt bq bo gt ct : Nat} {qv : Value} {s : DSt} {w : World} (h : TMem base bt bq bo gt ct qv s w) {t t' : Bool} (ht : t = t') : TMem base bt bq bo gt ct qv ⟨s.told, s.todo, t'⟩ (w.setCell ⟨bo, 0, none⟩ (.bool t)) := by
  subst ht; exact (h.setOk t).1
theorem falling_lt {l : List Int} {n : Nat} (hf : Falling l) (hr : ∀ x ∈ l, 0 ≤ x ∧ x < (n : Int)) : l.length ≤ n := by
  have hn : (l.map Int.toNat).Nodup := by
    rw [List.nodup_iff_pairwise_ne, List.pairwise_map]
    refine List.Pairwise.imp_of_mem (fun {a b} ha hb h => ?_) hf
    have := hr a ha; have := hr b hb; omega
  have := hn.length_le_of_subset (l₂ := List.range n) (fun x hx => by
    obtain ⟨y, hy, rfl⟩ := List.mem_map.1 hx
    have := hr y hy
    exact List.mem_range.2 (by omega))
  simpa using this
theorem falling_len {s : DSt} (h : DInv s.told.length s) : s.todo.length ≤ s.told.length := falling_lt h.fall fun x hx => ⟨(h.rng x hx).1, (h.rng x hx).2.1⟩

set_option maxHeartbeats 4000000 in
theorem tell_old (base bt bq bo gt ct : Nat) (qv : Value) (s : DSt) (w : World) (k : Nat) (deep : Int) (h : TMem base bt bq bo gt ct qv s w) (hk : k < s.told.length) (hold : 0 ≤ s.told.getD k 0) (hl : s.told.length ≤ 1000000) :
    Calls Tryz.prog 129 #[.int .i64 k, .int .i64 deep, .pointer (some ⟨bt, 0, none⟩), .pointer (some ⟨bq, 0, none⟩), .pointer (some ⟨bo, 0, none⟩)] w (TellIs base bt bq bo gt ct qv (tellD k deep s) w) := by
  have f0 := (h.at_ hk).1
  have b0 := h.tb.cell 0
  have b1 := h.qb.cell 0
  have b2 := h.ob.cell 0
  have z2 := h.ob.frozen 0
  have l0 := h.tb.lt
  have l1 := h.qb.lt
  have l2 := h.ob.lt
  have H := Lib.hid h
  have HT : Hid (tellD k deep s = ⟨s.told, s.todo, s.ok && decide (s.told.getD k 0 = deep)⟩) := Lib.hid (by unfold tellD; rw [Int.toNat_natCast, if_neg (by omega)])
  obtain ⟨y, hy⟩ : ∃ y, y = s.told.getD k 0 := ⟨_, rfl⟩
  rw [← hy] at f0 hold
  have HY := Lib.hid hy
  obtain ⟨o, ho⟩ : ∃ o, o = s.ok := ⟨_, rfl⟩
  simp only [← ho] at b2
  have HO := Lib.hid ho
  clear hy h ho
  go_enter Tryz.func129, Tryz.ntmps129
  go_wp2_with fail
  all_goals
    refine bodyPost_ret (results_none rfl _ _ _) rfl ?_
    rw [HT.out]
    refine ⟨rfl, qv, ?_, ?_, .inl rfl⟩
    · refine told_ok H.out ?_
      rw [← HO.out, ← HY.out]
      first
        | (have e : o = true := by assumption
           rw [e]; simp only [Bool.true_and]; rfl)
        | (have e : ¬ o = true := by assumption
           simp only [Bool.not_eq_true] at e
           rw [e]; rfl)
    · exact (H.out.setOk _).2

set_option maxRecDepth 100000 in
set_option maxHeartbeats 8000000 in
theorem tell_new (base bt bq bo gt ct : Nat) (qv : Value) (s : DSt) (w : World) (k : Nat) (deep : Int) (h : TMem base bt bq bo gt ct qv s w) (hi : DInv s.told.length s) (hk : k < s.told.length) (hnew : s.told.getD k 0 < 0) (hl : s.told.length ≤ 1000000) (hd : 0 ≤ deep ∧ deep ≤ 257) :
    Calls Tryz.prog 129 #[.int .i64 k, .int .i64 deep, .pointer (some ⟨bt, 0, none⟩), .pointer (some ⟨bq, 0, none⟩), .pointer (some ⟨bo, 0, none⟩)] w (TellIs base bt bq bo gt ct qv (tellD k deep s) w) := by
  have f0 := (h.at_ hk).1
  have z0 := (h.at_ hk).2
  have b0 := h.tb.cell 0
  have b1 := h.qb.cell 0
  have l0 := h.tb.lt
  have l1 := h.qb.lt
  have l2 := h.ob.lt
  obtain ⟨T1, U1⟩ := h.setTold deep hk
  have HT : Hid (tellD k deep s = ⟨s.told.set k deep, insL s.todo (insK s.todo k) k, s.ok⟩) := Lib.hid (by unfold tellD; rw [Int.toNat_natCast, if_pos hnew]; rfl)
  obtain ⟨y, hy⟩ : ∃ y, y = s.told.getD k 0 := ⟨_, rfl⟩
  rw [← hy] at f0 hnew
  obtain ⟨w1, hw1⟩ : ∃ w1, w1 = w.setCell ⟨gt, k, none⟩ (.int .i64 deep) := ⟨_, rfl⟩
  rw [← hw1] at T1 U1
  have hlt : s.todo.length ≤ s.told.length := falling_len hi
  have HI := Lib.hid hi
  have HSZ : Hid (w1.heap.size = w.heap.size) := Lib.hid (by rw [hw1]; simp [World.setCell])
  have hgt : gt < w.heap.size := (World.ownsRow.lt h.tr gt rfl).2
  have HT1 := Lib.hid T1; have HU1 := Lib.hid U1
  clear hy h T1 U1
  go_enter Tryz.func129, Tryz.ntmps129
  go_upto_region 2 with fail
  rw [← hw1]
  clear hw1 f0 z0 b0 b1
  have b1 : w1.cell? ⟨bq, 0, none⟩ = some qv := HT1.out.qb.cell 0
  have l1' := HT1.out.qb.lt
  go_upto_region 3 with (go_at_call 130; refine (bsearch_any w1 qv s.todo k (HT1.out.qr.ints (by unfold lim; simp only; omega)) HI.out.fall (fun x hx => by have := HI.out.rng x hx; omega) (by omega)).mono ?_; rintro e w' ⟨⟨bb, rfl⟩, hw'⟩; have hw2 := hw'.symm; subst hw2)
  have hk1 : insK s.todo k ≤ s.todo.length := (List.takeWhile_sublist _).length_le
  have HT2 : Hid (TMem base bt bq bo gt ct qv ⟨s.told.set k deep, s.todo, s.ok⟩ (w1.alloc (.cells #[.int .i64 k] 3))) := Lib.hid (HT1.out.below ((Below.refl _ _).alloc (Nat.le_refl _) _))
  have hbW := HT1.out.hbW
  clear hi
  go_upto_region 4 with (go_at_call 132; refine (insert_any (w1.alloc (.cells #[.int .i64 k] 3)) base qv s.todo (insK s.todo k) k w1.heap.size HT2.out.qr hk1 (Blk.new w1 _ _) (fun e => by have := (World.ownsRow.lt HT1.out.qr _ e).2; omega) (by simp; omega) (by omega)).mono ?_; rintro e w3 ⟨v3, rfl, ho3, hg3, hv3⟩; obtain ⟨A3, d3, rfl⟩ := ow_form ho3; obtain ⟨T4, U4⟩ := HT2.out.put ho3 hg3 hv3; have HT4 := Lib.hid T4; have HU4 := Lib.hid U4; have q3 := HT2.out.qb.grown hg3 (fun e => ow_ne_blk HT2.out.qr HT2.out.qb (by decide) e.symm); have c3 : w3.cell? ⟨bq, 0, none⟩ = some qv := q3.cell 0; have z3 := q3.frozen 0; have l3 := q3.lt; have HV3 := Lib.hid hv3; clear T4 U4 q3 ho3 hg3 hv3 b1)
  obtain ⟨w4, hw4⟩ : ∃ w4, w4 = w3.setCell ⟨bq, 0, none⟩ (.slice A3 (insL s.todo (insK s.todo k) k).length d3) := ⟨_, rfl⟩
  rw [← hw4] at HT4 HU4 ⊢
  have g4 : w4.cell? ⟨gt, k, none⟩ = some (.int .i64 deep) := by
    rw [(HT4.out.at_ (k := k) (by simpa using hk)).1]
    simp [List.getD_eq_getElem?_getD, hk]
  have c0 : w4.cell? ⟨bt, 0, none⟩ = some (.slice (some ⟨gt, 0, none⟩) s.told.length ct) := by
    have := HT4.out.tb.cell 0
    simpa using this
  obtain ⟨o, ho⟩ : ∃ o, o = s.ok := ⟨_, rfl⟩
  have c2 : w4.cell? ⟨bo, 0, none⟩ = some (.bool o) := by rw [ho]; exact HT4.out.ob.cell 0
  have z4 := HT4.out.ob.frozen 0
  have m0 := HT4.out.tb.lt
  have m1 := HT4.out.ob.lt
  have HO := Lib.hid ho
  clear ho hw4
  go_wp2_with fail
  all_goals
    refine bodyPost_ret (results_none rfl _ _ _) rfl ?_
    rw [HT.out]
    refine ⟨rfl, .slice A3 (insL s.todo (insK s.todo k) k).length d3, ?_, ?_, ?_⟩
    · refine told_ok HT4.out ?_
      rw [← HO.out]
      first
        | (have e : o = true := by assumption
           subst e; first | rfl | simp)
        | (have e : ¬ o = true := by assumption
           simp only [Bool.not_eq_true] at e
           subst e; first | rfl | simp)
    · refine (HU1.out.trans (Turn4.of_below (S := tS gt bq bo qv) ((Below.refl _ _).alloc (Nat.le_refl _) _)) (fun x h => .inl h)).trans (HU4.out.trans (HT4.out.setOk _).2 (S' := tS gt bq bo (.slice A3 (insL s.todo (insK s.todo k) k).length d3)) ?_) (fun x h => .inl h)
      intro x hx
      rcases hx with h | h | h | h
      · exact .inl (.inl h)
      · exact .inl (.inr (.inl h))
      · exact .inl (.inr (.inr (.inl h)))
      · rcases HV3.out with e | e
        · rw [e] at h; exact .inl (.inr (.inr (.inr h)))
        · rw [e] at h; injection h with h; exact .inr (Nat.le_of_eq h)
    · rcases HV3.out with e | e
      · exact .inl e
      · exact .inr ⟨_, e, by have := HSZ.out; simp only [World.size_alloc]; omega⟩
theorem tell_any (base bt bq bo gt ct : Nat) (qv : Value) (s : DSt) (w : World) (a deep : Int) (h : TMem base bt bq bo gt ct qv s w) (hi : DInv s.told.length s) (ha : 0 ≤ a ∧ a < (s.told.length : Int)) (hl : s.told.length ≤ 1000000) (hd : 0 ≤ deep ∧ deep ≤ 257) :
    Calls Tryz.prog 129 #[.int .i64 a, .int .i64 deep, .pointer (some ⟨bt, 0, none⟩), .pointer (some ⟨bq, 0, none⟩), .pointer (some ⟨bo, 0, none⟩)] w (TellIs base bt bq bo gt ct qv (tellD a deep s) w) := by
  obtain ⟨k, rfl⟩ : ∃ k : Nat, a = (k : Int) := ⟨a.toNat, by omega⟩
  by_cases hn : s.told.getD k 0 < 0
  · exact tell_new base bt bq bo gt ct qv s w k deep h hi (by omega) hn hl hd
  · exact tell_old base bt bq bo gt ct qv s w k deep h (by omega) (by omega) hl
end Go.Proofs.YtkmfdiboekoioaaGreat
