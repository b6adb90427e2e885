/-
  However far another one is, at most so many are new at one time; taken over and over all are: the law's plain side and its walk.
-/
import Derived.Test.YtonjpdidbgicgaaW9
namespace Go.Proofs.Ytonjpdidbgicgaa
open Go.RowKit

def takesSt (l : List Int) (i : Nat) : BSt := ⟨3, 1, 5, fun _ => false, fun _ => 0, fun o => if 1 ≤ o ∧ o ≤ 3 then min (64 * (i : Int)) (l.getD (o - 1) 0) else 0⟩

def Marks3 (l : List Int) : Prop := l.length = 3 ∧ ∀ k, 0 ≤ l.getD k 0 ∧ l.getD k 0 ≤ 299

theorem takes_own {l : List Int} (h : Marks3 l) (i : Nat) : ownB (takesSt l i) l = 3 := by
  unfold ownB
  rw [h.1]
  rfl

theorem takes_zero {l : List Int} (h : Marks3 l) : takesSt l 0 = BSt.init 3 1 5 := by
  refine BSt.mrk_ext rfl rfl rfl rfl rfl fun o => ?_
  simp only [takesSt, BSt.init]
  have := h.2 (o - 1)
  split <;> omega

theorem takes_cnt {l : List Int} (h : Marks3 l) (i o : Nat) (h1 : 1 ≤ o) (h3 : o ≤ 3) : (cntB (takesSt l i) o (l.getD (o - 1) 0) : Int) = min (64 * ((i : Int) + 1)) (l.getD (o - 1) 0) - min (64 * (i : Int)) (l.getD (o - 1) 0) := by
  have := h.2 (o - 1)
  simp only [cntB, takesSt]
  rw [if_pos ⟨h1, h3⟩]
  omega

theorem takes_succ {l : List Int} (h : Marks3 l) (i : Nat) : takeS (takesSt l i) l 3 = takesSt l (i + 1) := by
  refine BSt.mrk_ext rfl rfl rfl rfl rfl fun o => ?_
  have hm : ∀ j, (takesSt l j).mrk o = if 1 ≤ o ∧ o ≤ 3 then min (64 * (j : Int)) (l.getD (o - 1) 0) else 0 := fun _ => rfl
  simp only [takeS]
  rw [hm, hm]
  by_cases hq : 1 ≤ o ∧ o ≤ 3
  · rw [if_pos hq, if_pos hq, if_pos hq, takes_cnt h i o hq.1 hq.2]
    omega
  · rw [if_neg hq, if_neg hq, if_neg hq]

/-- How many have been seen behind i rounds. -/
def seenB (l : List Int) (i : Nat) : Int := min (64 * (i : Int)) (l.getD 0 0) + min (64 * (i : Int)) (l.getD 1 0) + min (64 * (i : Int)) (l.getD 2 0)

theorem takes_len {l : List Int} (h : Marks3 l) (i : Nat) : ((takeL (takesSt l i) l 3).length : Int) = seenB l (i + 1) - seenB l i := by
  have a := takes_cnt h i 1 (by omega) (by omega)
  have b := takes_cnt h i 2 (by omega) (by omega)
  have c := takes_cnt h i 3 (by omega) (by omega)
  simp only [takeL, List.length_append, List.length_nil, idsOf_length, seenB]
  simp only [Nat.add_one_sub_one, Nat.zero_add, Nat.reduceAdd] at *
  omega

theorem takes_len_le {l : List Int} (i : Nat) : (takeL (takesSt l i) l 3).length ≤ 192 := takeL_length_le _ _ 3

theorem seen_end {l : List Int} (h : Marks3 l) : seenB l 6 = l.getD 0 0 + l.getD 1 0 + l.getD 2 0 := by
  have := h.2 0
  have := h.2 1
  have := h.2 2
  simp only [seenB]
  omega

theorem takes_none {l : List Int} (h : Marks3 l) : (takeL (takesSt l 6) l 3).length = 0 := by
  have e := takes_len h 6
  have := h.2 0
  have := h.2 1
  have := h.2 2
  simp only [seenB] at e
  omega

theorem takes_marks {l : List Int} (h : Marks3 l) : (takesSt l 7).marks = [l.getD 0 0, l.getD 1 0, l.getD 2 0] := by
  have := h.2 0
  have := h.2 1
  have := h.2 2
  show [(takesSt l 7).mrk 1, (takesSt l 7).mrk 2, (takesSt l 7).mrk 3] = _
  have hm : ∀ o, (takesSt l 7).mrk o = if 1 ≤ o ∧ o ≤ 3 then min (64 * 7) (l.getD (o - 1) 0) else 0 := fun _ => rfl
  rw [hm, hm, hm, if_pos (by omega), if_pos (by omega), if_pos (by omega)]
  rw [Int.min_eq_right (by show l.getD 0 0 ≤ _; omega), Int.min_eq_right (by show l.getD 1 0 ≤ _; omega), Int.min_eq_right (by show l.getD 2 0 ≤ _; omega)]

theorem seen_bound {l : List Int} (h : Marks3 l) (i : Nat) : 0 ≤ seenB l i ∧ seenB l i ≤ 900 := by
  have := h.2 0
  have := h.2 1
  have := h.2 2
  simp only [seenB]
  omega

end Go.Proofs.Ytonjpdidbgicgaa
