/- Plain facts of the chapter's graph: what meets there, its order, its registers. No condition. -/
import Derived.Test.YtkmfdiboekoioaaSum
namespace Go.Proofs.Ytkmfdiboekoioaa
open Go.RowKit

def sumB : BlockP := ⟨[0, 1, 2, 3, 4], 4, [4], [], [], -1⟩
theorem sum_small : Small sumG := by unfold Small; decide
theorem sum_sound : soundB sumG = true := by decide
def sumSpot : Spot := [4, 3, 2, 1, 0].foldl (spotStep sumG) ⟨((ISet.empty.add 5 []).add 5 [4]).add 5 [], [], fun _ _ => false⟩
def sumR : Meets := clique sumSpot.meet sumSpot.phis
theorem sum_meets {I O : Sets} (h : LiveIs sumG I O) : meetAll sumG I O = sumR := by
  have hO : O.at_ 0 = ISet.empty := Sets.at_some (h.isO 0 sumB rfl)
  have hI : I.at_ 0 = inF sumG sumB ISet.empty := by rw [← hO]; exact Sets.at_some (h.isI 0 sumB rfl)
  have lO : listOf 5 (O.at_ 0) = [] := by rw [hO]; decide
  have lI : listOf 5 (I.at_ 0) = [] := by rw [hI]; decide
  have e1 : meetAll sumG I O = meetBlock sumG I O 0 sumB (fun _ _ => false) := meetTo_step sumG I O 0 sumB rfl
  have e2 : spotTo sumG I O 0 sumB (fun _ _ => false) [4, 3, 2, 1, 0] = sumSpot := by
    unfold spotTo spotFirst sumSpot
    show List.foldl (spotStep sumG) ⟨((ISet.empty.add 5 (listOf 5 (O.at_ 0))).add 5 [4]).add 5 [], listOf 5 (I.at_ 0), fun _ _ => false⟩ [4, 3, 2, 1, 0] = _
    rw [lO, lI]
  rw [e1]
  unfold meetBlock
  show clique (spotTo sumG I O 0 sumB (fun _ _ => false) [4, 3, 2, 1, 0]).meet (spotTo sumG I O 0 sumB (fun _ _ => false) [4, 3, 2, 1, 0]).phis = sumR
  rw [e2]
  rfl
theorem sum_ab : abOf sumG 0 = [0] := by
  unfold abOf
  show aboveTo sumG 0 (0 + 1) = [0]
  rw [aboveTo_yes (.inr (.inl rfl))]
  simp [aboveTo]
theorem sum_order : orderOf sumG = [0, 1, 2, 3, 4, 0, 1, 2, 3, 4] := by
  have h : ordAll sumG 1 = ⟨fun z => false || z == 0, [0, 1, 2, 3, 4]⟩ := by
    show ordB sumG (abOf sumG) (1 + 1) ⟨ISet.empty, []⟩ 0 = _
    rw [ordB_new rfl]
    unfold ordTo
    rw [sum_ab]
    have : ordStep (abOf sumG) (ordB sumG (abOf sumG) 1) 0 ⟨fun z => ISet.empty z || z == ((0 : Nat) : Int), []⟩ 0 = ⟨fun z => ISet.empty z || z == ((0 : Nat) : Int), []⟩ := by
      unfold ordStep
      rw [if_neg (by simp)]
    simp only [List.length_singleton, List.take_succ_cons, List.take_zero, List.foldl_cons, List.foldl_nil, this]
    rfl
  unfold orderOf
  show (ordAll sumG 1).out ++ natsTo 5 = _
  rw [h]
  rfl
theorem GTo.inv {R : Meets} {N : Nat} {m rs' : List Int} (h : GTo R N m rs') {l : List Int} {n : Nat} (e : m = l ++ [(n : Int)]) : ∃ rs, GTo R N l rs ∧ GStep R rs n rs' := by
  cases h with
  | nil => simp at e
  | snoc l1 n1 rs _ h1 h2 =>
    obtain ⟨e1, e2⟩ := List.append_inj' e rfl
    injection e2 with e2
    have e3 : n1 = n := by omega
    subst e1 e3
    exact ⟨rs, h1, h2⟩
theorem GTo.start {R : Meets} {N : Nat} {rs : List Int} (h : GTo R N [] rs) : rs = List.replicate N (-1) := by
  generalize e : ([] : List Int) = m at h
  cases h with
  | nil => rfl
  | snoc l n rs _ h1 h2 => simp at e
theorem GStep.has {R : Meets} {rs rs' : List Int} {n : Nat} (h : GStep R rs n rs') (h0 : 0 ≤ rs.getD n 0) : rs' = rs := by
  rcases h with ⟨_, h⟩ | ⟨h, _⟩
  · exact h
  · omega
theorem GStep.gets {R : Meets} {rs rs' : List Int} {n : Nat} {r : Int} (h : GStep R rs n rs') (h0 : rs.getD n 0 < 0) (hf : FreeIs (takenOf R rs n) r) : rs' = rs.set n r := by
  rcases h with ⟨h, _⟩ | ⟨_, r', h, h2⟩
  · omega
  · rw [h2, h.one hf]
theorem free0 {t : ISet} (h : t 0 = false) : FreeIs t 0 := ⟨by omega, h, fun q h1 h2 => by omega⟩
theorem free1 {t : ISet} (h : t 0 = true) (h1 : t 1 = false) : FreeIs t 1 := by
  refine ⟨by omega, h1, fun q h2 h3 => ?_⟩
  have e : q = 0 := by omega
  rw [e]; exact h
theorem sum_regs {rs : List Int} (h : GTo sumR 5 (orderOf sumG) rs) : rs = [0, 1, 0, 0, 0] := by
  rw [sum_order] at h
  obtain ⟨r9, h, s9⟩ := h.inv (l := [0, 1, 2, 3, 4, 0, 1, 2, 3]) (n := 4) rfl
  obtain ⟨r8, h, s8⟩ := h.inv (l := [0, 1, 2, 3, 4, 0, 1, 2]) (n := 3) rfl
  obtain ⟨r7, h, s7⟩ := h.inv (l := [0, 1, 2, 3, 4, 0, 1]) (n := 2) rfl
  obtain ⟨r6, h, s6⟩ := h.inv (l := [0, 1, 2, 3, 4, 0]) (n := 1) rfl
  obtain ⟨r5, h, s5⟩ := h.inv (l := [0, 1, 2, 3, 4]) (n := 0) rfl
  obtain ⟨r4, h, s4⟩ := h.inv (l := [0, 1, 2, 3]) (n := 4) rfl
  obtain ⟨r3, h, s3⟩ := h.inv (l := [0, 1, 2]) (n := 3) rfl
  obtain ⟨r2, h, s2⟩ := h.inv (l := [0, 1]) (n := 2) rfl
  obtain ⟨r1, h, s1⟩ := h.inv (l := [0]) (n := 1) rfl
  obtain ⟨r0, h, s0⟩ := h.inv (l := []) (n := 0) rfl
  have e0 := h.start
  subst e0
  have e1 := s0.gets (by decide) (free0 (by decide)); subst e1
  have e2 := s1.gets (by decide) (free1 (by decide) (by decide)); subst e2
  have e3 := s2.gets (by decide) (free0 (by decide)); subst e3
  have e4 := s3.gets (by decide) (free0 (by decide)); subst e4
  have e5 := s4.gets (by decide) (free0 (by decide)); subst e5
  have e6 := s5.has (by decide); subst e6
  have e7 := s6.has (by decide); subst e7
  have e8 := s7.has (by decide); subst e8
  have e9 := s8.has (by decide); subst e9
  have e10 := s9.has (by decide); subst e10
  decide
/-- The two calls of Check. -/
theorem sum_apart_no : ¬ Apart sumR 5 [0, 0, 0, 0, 0] := fun h => h 0 1 (by omega) (by decide) (by omega) (by decide)
theorem sum_apart_yes {I O : Sets} (hl : LiveIs sumG I O) : Apart (meetAll sumG I O) 5 [0, 1, 0, 1, 0] := by
  intro n z hn hr hz
  have hm := (meetIn_all (g := sumG) (I := I) (O := O) hl.boundI sumG.blocks.length) n z hr
  have hz5 : z < 5 := by have : (sumG.nodes.length : Int) = 5 := rfl; omega
  rw [sum_meets hl] at hr
  have key : ∀ n : Nat, n < 5 → ∀ z : Nat, z < 5 → sumR (n : Int) (z : Int) = true → z ≠ n → ([0, 1, 0, 1, 0] : List Int).getD z 0 ≠ ([0, 1, 0, 1, 0] : List Int).getD n 0 := by decide
  exact key n hn z hz5 hr hz
theorem sum_check_no {w w' : World} {e : Ending} (h : CheckIs sumG [0, 0, 0, 0, 0] w e w') : e = .returned (.bool false) ∧ Below w.heap.size w w' := by
  obtain ⟨b, rfl, hb, h | ⟨_, I, O, hl, h⟩⟩ := h
  · exact ⟨by rw [h.1], hb⟩
  · refine ⟨?_, hb⟩
    cases b with
    | false => rfl
    | true =>
      have := h.1 rfl
      rw [sum_meets hl] at this
      exact absurd this sum_apart_no
theorem sum_check_yes {w w' : World} {e : Ending} (h : CheckIs sumG [0, 1, 0, 1, 0] w e w') : e = .returned (.bool true) ∧ Below w.heap.size w w' := by
  obtain ⟨b, rfl, hb, h | ⟨_, I, O, hl, h⟩⟩ := h
  · exact absurd (show RegsOk sumG.nodes.length [0, 1, 0, 1, 0] by unfold RegsOk; decide) h.2
  · rw [h.2 (sum_apart_yes hl)]; exact ⟨rfl, hb⟩
def SumDo (w : World) (e : Ending) (w' : World) : Prop := ∃ br : Nat, e = .returned (.tuple #[.slice (some ⟨br, 0, none⟩) 5 5, .int .i64 0]) ∧ Blk w' br 3 #[.int .i64 0, .int .i64 1, .int .i64 0, .int .i64 0, .int .i64 0] ∧ Below w.heap.size w w'
theorem sum_do {w w' : World} {e : Ending} (h : DoIs sumG w e w') : SumDo w e w' := by
  rcases h with ⟨h, _⟩ | ⟨_, br, rs, I, O, he, hl, hg, hb, hlow⟩
  · rw [sum_sound] at h; cases h
  · rw [sum_meets hl] at hg
    have := sum_regs hg
    subst this
    exact ⟨br, he, hb, hlow⟩
end Go.Proofs.Ytkmfdiboekoioaa
