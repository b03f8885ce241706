/- The walk of AllocOwn: it answers true. Conditions: a graph that lies in memory. -/
import Derived.Test.YtkmfdiboekoioaaOwn1
import Derived.Test.YtkmfdiboekoioaaBeyond
namespace Go.Proofs.Ytkmfdiboekoioaa
open Go.RowKit

/-- The registers: one of its own for each, the first k laid. -/
def ownTo (N k : Nat) : List Int := (List.range N).map (fun i => if i < k then ((N - i : Nat) : Int) else 0)
theorem ownTo_len (N k : Nat) : (ownTo N k).length = N := by simp [ownTo]
theorem ownTo_set {N k : Nat} (_h : k < N) : (ownTo N k).set k ((N - k : Nat) : Int) = ownTo N (k + 1) := by
  apply List.ext_getElem?
  intro i
  rw [List.getElem?_set]
  unfold ownTo
  simp only [List.length_map, List.length_range, List.getElem?_map]
  rcases Nat.lt_or_ge i N with hi | hi
  · rw [List.getElem?_range hi]
    by_cases e : k = i
    · subst e
      simp [hi]
    · rw [if_neg e]
      simp only [Option.map_some]
      by_cases h2 : i < k
      · rw [if_pos h2, if_pos (by omega)]
      · rw [if_neg h2, if_neg (by omega)]
  · rw [List.getElem?_eq_none (by simpa using hi)]
    rw [if_neg (by omega)]; rfl
theorem ownTo_zero (N : Nat) : ownTo N 0 = List.replicate N 0 := by
  unfold ownTo
  apply List.ext_getElem?
  intro i
  rcases Nat.lt_or_ge i N with h | h
  · simp [h]
  · rw [List.getElem?_eq_none (by simpa using h), List.getElem?_eq_none (by simpa using h)]
theorem own_made (N : Nat) : madeCells #[.int .i64 0] N = regCells (ownTo N 0) := by
  rw [ownTo_zero]
  apply Array.ext_getElem?
  intro i
  by_cases hi : i < N
  · simp [madeCells, regCells, hi, Nat.mod_one]
  · simp [madeCells, regCells, hi]
theorem ownTo_get {N i : Nat} (h : i < N) : (ownTo N N).getD i 0 = ((N - i : Nat) : Int) := by
  rw [List.getD_eq_getElem?_getD]
  simp [ownTo, h]
theorem own_check {g : GraphP} {w w' : World} {e : Ending} (h : CheckIs g (ownTo g.nodes.length g.nodes.length) w e w') : e = .returned (.bool true) := by
  obtain ⟨b, rfl, hb, h | ⟨_, I, O, hl, h⟩⟩ := h
  · refine absurd ⟨ownTo_len _ _, fun r hr => ?_⟩ h.2
    unfold ownTo at hr
    obtain ⟨i, hi, rfl⟩ := List.mem_map.1 hr
    split <;> omega
  · rw [h.2 ?_]
    intro n z hn hr hz
    have hm := (meetIn_all (g := g) (I := I) (O := O) hl.boundI g.blocks.length) n z hr
    have hz5 : z < g.nodes.length := by omega
    rw [ownTo_get hn, ownTo_get hz5]
    omega
theorem long_check {g : GraphP} {w w' : World} {e : Ending} {rs : List Int} (hl : rs.length = g.nodes.length) (h : CheckIs g (rs ++ [0]) w e w') : e = .returned (.bool false) := by
  obtain ⟨b, rfl, hb, h | ⟨h, _⟩⟩ := h
  · rw [h.1]
  · have := h.1
    rw [List.length_append, List.length_singleton] at this
    omega
theorem neg_check {g : GraphP} {w w' : World} {e : Ending} {rs : List Int} (hl : 0 < rs.length) (h : CheckIs g (rs.set 0 (-1)) w e w') : e = .returned (.bool false) := by
  obtain ⟨b, rfl, hb, h | ⟨h, _⟩⟩ := h
  · rw [h.1]
  · have : (-1 : Int) ∈ rs.set 0 (-1) := List.mem_iff_getElem?.2 ⟨0, by rw [List.getElem?_set_self hl]⟩
    have := h.2 _ this
    omega
set_option maxRecDepth 100000 in
set_option maxHeartbeats 8000000 in
theorem own_any (w : World) (g : GraphP) (xv : GVals) (hg : GraphV w w.heap.size xv g) : Calls Try.prog 3 #[gval g xv] w (LivesIs w) := by
  obtain ⟨vn, vb, vs⟩ := xv
  have HG := Lib.hid hg
  obtain ⟨hn, _, _⟩ := hg
  simp only at hn
  obtain ⟨An, cn, rfl, _, _, _⟩ := hn
  obtain ⟨i0, hi, hz0, hz1, hz2⟩ := info_parts int_info
  have HC0 := Lib.hid (GCtx.first HG.out)
  have HB0 : Hid (Below w.heap.size w (w.alloc (.cells (gbox g ⟨.slice An g.nodes.length cn, vb, vs⟩) 26))) := Lib.hid ((Below.refl _ _).alloc (Nat.le_refl _) _)
  unfold gval
  go_enter Try.func3, Try.ntmps3
  go_upto_region 3 with first
    | (go_at_call 5; refine (lives_any _).mono ?_; rintro e w2 ⟨rfl, hb2⟩; have HB2 := Lib.hid hb2; clear hb2)
    | (go_at_call 4; refine (beyond_any ⟨.slice An g.nodes.length cn, vb, vs⟩ g _ HC0.out.graph).mono ?_; rintro e w1 ⟨b, rfl, hnb, hb1⟩; have HB1 := Lib.hid (HB0.out.trans (hb1.mono HB0.out.size)); have HC1 := Lib.hid (HC0.out.below hb1); have HNb := Lib.hid hnb; clear hb1 hnb)
    | fail
  · go_wp2_with fail
    all_goals go_ret
    exact ⟨rfl, HB1.out.trans (HB2.out.mono HB1.out.size)⟩
  · obtain ⟨n1, n2, n3⟩ := HNb.out ‹b = false›
    have hs : Small g := Nat.le_trans n1 (by omega)
    have HN1 := Lib.hid n1
    clear n1 n2
    have hmk := fun W : World => run_make (P := Try.prog) W 29 3 i0 (.int .i64 0) Try.underlying29 hi hz0 .i64 .i64 (g.nodes.length : Int) (g.nodes.length : Int) (by omega) (Int.le_refl _) (by rw [hz2]; omega) (by omega)
    simp only [hz1, Int.toNat_natCast, Value.cells, Nat.mul_one] at hmk
    obtain ⟨q0, q1, q2, q3, q4, q5⟩ := HC1.out.cells
    simp only at q3 q4 q5
    go_wp2_with fail
    clear q0 q1 q2 q3 q4 q5 hmk
    have HM1 : Hid (LMem w g ⟨.slice An g.nodes.length cn, vb, vs⟩ w1.heap.size (ownTo g.nodes.length 0) (w1.alloc (.cells (madeCells #[.int .i64 0] g.nodes.length) 3))) := Lib.hid ⟨HC1.out.alloc _, by rw [← own_made]; exact Blk.new w1 _ _, HB1.out.alloc HB1.out.size _, HC1.out.lt⟩
    obtain ⟨br, hbr⟩ : ∃ br, br = w1.heap.size := ⟨_, rfl⟩
    rw [← hbr] at HM1 ⊢
    clear hbr
    go_loopw [4] (fun i wr => ∃ k : Nat, i = .int .i64 k ∧ k ≤ g.nodes.length ∧ Hid (LMem w g ⟨.slice An g.nodes.length cn, vb, vs⟩ br (ownTo g.nodes.length k) wr)) (fun i _ => g.nodes.length - (intOf i).toNat)
    case atStart => exact ⟨0, rfl, Nat.zero_le _, HM1⟩
    case round =>
      obtain ⟨k, rfl, hk, HM⟩ := hrel
      by_cases hlt : k < g.nodes.length
      · have f0 := HM.out.cell (k := k) (by rw [ownTo_len]; exact hlt)
        have f1 := HM.out.rg.frozen k
        go_wp2_with fail
        go_roundw
        case rel =>
          refine ⟨k + 1, by go_num, by omega, Lib.hid ?_⟩
          have := HM.out.put k ((g.nodes.length - k : Nat) : Int)
          rw [ownTo_set hlt] at this
          have e : (((g.nodes.length - k : Nat) : Nat) : Int) = (g.nodes.length : Int) - k := by omega
          rw [e] at this
          exact this
        case measure => simp [intOf]; omega
      · have e : k = g.nodes.length := by omega
        subst e
        go_upto_region 8 with fail
        have HMd := Lib.hid HM.out.drew
        have HL := Lib.hid (ownTo_len g.nodes.length g.nodes.length)
        obtain ⟨q0, q1, q2, q3, q4, q5⟩ := HMd.out.cx.cells
        simp only at q3 q4 q5
        go_region_law (first
          | (refine step_check (by rfl) (.tmp 25) (.tmp 26) _ (by rfl) g ⟨.slice An g.nodes.length cn, vb, vs⟩ (.slice (some ⟨br, 0, none⟩) g.nodes.length g.nodes.length) (by rfl) (by rfl) (ownTo g.nodes.length g.nodes.length) true HMd.out.cx.graph hs (HMd.out.intsN HL.out (by omega)) (fun e w' h => own_check h) ?_; intro w2 hb2; have HM2 := Lib.hid (HMd.out.later hb2); clear hb2; clear q0 q1 q2 q3 q4 q5; obtain ⟨q0, q1, q2, q3, q4, q5⟩ := HM2.out.cx.cells; simp only at q3 q4 q5; have z2 := HM2.out.cx.lt)
          | (refine step_app1 (by rfl) (.tmp 31) (by rfl) (.slice (some ⟨br, 0, none⟩) g.nodes.length g.nodes.length) (by rfl) (ownTo g.nodes.length g.nodes.length) (by first | exact HM2.out.intsN HL.out (by omega) | exact (HM2.out.alloc _).intsN HL.out (by omega)) (by have := HL.out; omega) ?_; intro v3 w3 base hbs hown3 hlow3; have HO3 := Lib.hid hown3; have HB3 := Lib.hid hlow3; have HM3 : Hid (LMem w g ⟨.slice An g.nodes.length cn, vb, vs⟩ br (ownTo g.nodes.length g.nodes.length) w3) := Lib.hid (by first | exact HM2.out.later (hbs ▸ hlow3) | exact (HM2.out.alloc _).later (hbs ▸ hlow3)); have HBS := Lib.hid hbs; clear hbs hown3 hlow3; obtain ⟨r0, r1, r2, r3, r4, r5⟩ := HM3.out.cx.cells; simp only at r3 r4 r5; have z3 := HM3.out.cx.lt)
          | (refine step_app (by rfl) (.tmp 32) (.tmp 33) (by rfl) v3 (.slice (some ⟨_, 0, none⟩) 1 1) (by rfl) (by rfl) base (ownTo g.nodes.length g.nodes.length) [0] (by first | exact HO3.out | exact World.ownsRow.alloc HO3.out _) (by first | exact ints_blk (Blk.new _ _ _) (by simp) rfl (by decide) (by decide) (at1 rfl) | exact ints_blk ((Blk.new w2 _ _).below HB3.out (by have := HBS.out; simp at this; omega)) (by have := HBS.out; have := HB3.out.size; simp at *; omega) rfl (by decide) (by decide) (at1 rfl)) (by have := HL.out; simp only [List.length_singleton]; omega) (by have := HBS.out; have := HB3.out.size; simp at *; omega) ?_; intro v4 w4 hown4 hlow4; have HO4 := Lib.hid hown4; have HM4 : Hid (LMem w g ⟨.slice An g.nodes.length cn, vb, vs⟩ br (ownTo g.nodes.length g.nodes.length) w4) := Lib.hid (by first | exact HM3.out.below hlow4 (by have := HM2.out.rg.lt; have := HBS.out; simp at *; omega) (by have := HBS.out; have := HB3.out.size; simp at *; omega) | exact (HM3.out.alloc _).below hlow4 (by have := HM2.out.rg.lt; have := HBS.out; simp at *; omega) (by have := HBS.out; have := HB3.out.size; simp at *; omega)); clear hown4 hlow4; obtain ⟨s0, s1, s2, s3, s4, s5⟩ := HM4.out.cx.cells; simp only at s3 s4 s5)
          | (refine step_check (by rfl) (.tmp 30) (.tmp 34) _ (by rfl) g ⟨.slice An g.nodes.length cn, vb, vs⟩ v4 (by rfl) (by rfl) ((ownTo g.nodes.length g.nodes.length) ++ [0]) false HM4.out.cx.graph hs (HO4.out.ints (by rw [List.length_append, HL.out, List.length_singleton]; unfold lim; omega)) (fun e w' h => long_check HL.out h) ?_; intro w5 hb5; have HM5 := Lib.hid (HM4.out.later hb5); clear hb5))
        all_goals
          have hlN := HL.out
          clear q0 q1 q2 q3 q4 q5 r0 r1 r2 r3 r4 r5 s0 s1 s2 s3 s4 s5 z2 z3 HM3 HO3 HB3 HBS HM4 HO4 HM2 HMd HM
          obtain ⟨q0, q1, q2, q3, q4, q5⟩ := HM5.out.cx.cells
          simp only at q3 q4 q5
          by_cases hp : 0 < g.nodes.length
          · have f0 := HM5.out.cell (k := 0) (by rw [hlN]; exact hp)
            have f1 := HM5.out.rg.frozen 0
            have HM6 := Lib.hid (HM5.out.put 0 (-1))
            obtain ⟨y0, y1, y2, y3, y4, y5⟩ := HM6.out.cx.cells
            simp only at y3 y4 y5
            clear hlN
            go_wp2_with first
              | (go_at_call 6; refine (check_any _ ⟨.slice An g.nodes.length cn, vb, vs⟩ g (.slice (some ⟨br, 0, none⟩) g.nodes.length g.nodes.length) ((ownTo g.nodes.length g.nodes.length).set 0 (-1)) HM6.out.cx.graph hs (HM6.out.intsN (by rw [List.length_set]; exact HL.out) (by omega))).mono ?_; intro e w7 h7; have HM7 : Hid (LMem w g ⟨.slice An g.nodes.length cn, vb, vs⟩ br ((ownTo g.nodes.length g.nodes.length).set 0 (-1)) w7) := Lib.hid (by obtain ⟨_, _, hlow, _⟩ := h7; exact HM6.out.later hlow); have e7 := neg_check (by rw [HL.out]; exact hp) h7; subst e7; clear h7)
              | (go_at_call 5; refine (lives_any _).mono ?_; rintro e w8 ⟨rfl, hb8⟩; have HB8 := Lib.hid hb8; clear hb8)
              | fail
            go_ret
            exact ⟨rfl, HM7.out.low.trans (HB8.out.mono HM7.out.low.size)⟩
          · have h0 : g.nodes.length = 0 := by omega
            clear hlN
            go_wp2_with first
              | (go_at_call 5; refine (lives_any _).mono ?_; rintro e w8 ⟨rfl, hb8⟩; have HB8 := Lib.hid hb8; clear hb8)
              | fail
            go_ret
            exact ⟨rfl, HM5.out.low.trans (HB8.out.mono HM5.out.low.size)⟩
end Go.Proofs.Ytkmfdiboekoioaa
