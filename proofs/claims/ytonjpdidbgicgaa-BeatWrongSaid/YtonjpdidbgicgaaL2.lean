/-
  Numbers that may not be make none; marks out of their bounds, or not above, mark nothing: the law's walk.
-/
import Derived.Test.YtonjpdidbgicgaaW9
import Derived.Deep.DeepCutAuto
namespace Go.Proofs.Ytonjpdidbgicgaa
open Go.RowKit

theorem new_either (n me p : Int) (w0 w : World) (hb : Below w0.heap.size w0 w) (h0 : 0 ≤ p) :
    Calls Try.prog 9 #[.int .i64 n, .int .i64 me, .int .u64 p] w fun e w' => ∃ (q : Value) (ev : Int), e = .returned (.tuple #[q, .int .i64 ev]) ∧
      ((mayB n me p = true ∧ ev = 0) ∨ (mayB n me p = false ∧ ev = 1)) ∧ Below w0.heap.size w0 w' := by
  cases h : mayB n me p with
  | true => exact (own_new n me p w0 w h hb).mono fun _ _ ⟨b, he, ho⟩ => ⟨_, _, he, .inl ⟨rfl, rfl⟩, ho.bel⟩
  | false => exact (new_bad n me p w h h0).mono fun _ _ ⟨he, hw⟩ => ⟨_, _, he, .inr ⟨rfl, rfl⟩, by rw [← hw]; exact hb⟩

def mayM (o m : Int) : Bool := decide (1 ≤ o) && decide (o ≤ 5) && decide (1 ≤ m) && decide (m < 16777216)

def wrongSt (o m : Int) : BSt := markS (markS (BSt.init 5 1 9) o m) o m

theorem wrong_first (o m : Int) : markB (BSt.init 5 1 9) o m = mayM o m := by
  have e1 : (BSt.init 5 1 9).n = 5 := rfl
  have e2 : ∀ k, (BSt.init 5 1 9).mrk k = 0 := fun _ => rfl
  simp only [markB, inB, e1, e2, mayM]
  rw [Bool.eq_iff_iff]
  simp only [Bool.and_eq_true, decide_eq_true_eq]
  omega

theorem wrong_second (o m : Int) : markB (markS (BSt.init 5 1 9) o m) o m = false := by
  unfold markS
  rw [wrong_first]
  split
  · simp [markB, upd]
  · rename_i h
    rw [wrong_first]
    simpa using h

theorem wrong_st (o m : Int) : wrongSt o m = markS (BSt.init 5 1 9) o m := by
  unfold wrongSt
  rw [markS_of_no (wrong_second o m)]

theorem wrong_n (o m : Int) : (wrongSt o m).n.toNat = 5 := by
  rw [wrong_st]
  unfold markS
  split <;> rfl

theorem wrong_sum (o m : Int) : (wrongSt o m).marks.sum = if mayM o m = true then m else 0 := by
  rw [wrong_st]
  unfold markS
  rw [wrong_first]
  split
  · rename_i h
    simp only [mayM, Bool.and_eq_true, decide_eq_true_eq] at h
    have : o = 1 ∨ o = 2 ∨ o = 3 ∨ o = 4 ∨ o = 5 := by omega
    rcases this with rfl | rfl | rfl | rfl | rfl <;> simp [BSt.marks, BSt.init, upd, List.range_succ]
  · rfl

theorem wrong_abs (o m : Int) (hm : -9223372036854775808 ≤ m ∧ m ≤ 9223372036854775807) (k : Nat) (hk : k ≤ 5) : -16777216 ≤ ((wrongSt o m).marks.take k).sum ∧ ((wrongSt o m).marks.take k).sum ≤ 16777216 := by
  rw [wrong_st]
  unfold markS
  rw [wrong_first]
  have : k = 0 ∨ k = 1 ∨ k = 2 ∨ k = 3 ∨ k = 4 ∨ k = 5 := by omega
  split
  · rename_i h
    simp only [mayM, Bool.and_eq_true, decide_eq_true_eq] at h
    have : o = 1 ∨ o = 2 ∨ o = 3 ∨ o = 4 ∨ o = 5 := by omega
    rename_i hk'
    rcases this with rfl | rfl | rfl | rfl | rfl <;> rcases hk' with rfl | rfl | rfl | rfl | rfl | rfl <;> simp [BSt.marks, BSt.init, upd, List.range_succ] <;> omega
  · rcases this with rfl | rfl | rfl | rfl | rfl | rfl <;> simp [BSt.marks, BSt.init, List.range_succ]

end Go.Proofs.Ytonjpdidbgicgaa
