/-
  Chapter 18: WaitStaggers: who stands farther behind waits no less than a base longer.
-/
import Derived.Test.YtflalllbplcgbaaL2
namespace Go.Proofs.Ytflalllbplcgbaa
open Go.RowKit Go.Sort Go.Maps Go.Shelf

/-- What is waited but for what was drawn. -/
def stemI (many o i t : Nat) (k : Int) : Int := k * ((rk many o i : Int) + 1) * 2 ^ t

theorem delay_rk {many o i t : Nat} {k d : Int} (h7 : many ≤ 7) (o1 : 1 ≤ o) (o2 : o ≤ many) (i1 : 1 ≤ i) (i2 : i ≤ many) (t6 : t ≤ 6) (k1 : 1 ≤ k) (k2 : k ≤ 1000) :
    delayI many i o t k d = stemI many o i t k + d % k := by
  unfold delayI stemI
  rw [show max (min k 1000) 1 = k by omega, rankI_rk h7 o1 o2 i1 i2, show (max (min (t : Int) 6) 0).toNat = t by omega]

theorem stem_step (many o i t : Nat) (k : Int) : stemI many o i (t + 1) k = 2 * stemI many o i t k := by
  unfold stemI
  rw [Int.pow_succ]
  rw [← Int.mul_assoc, Int.mul_comm]

theorem pow_bd (t : Nat) (h : t ≤ 6) : (2 : Int) ^ t = 1 ∨ (2 : Int) ^ t = 2 ∨ (2 : Int) ^ t = 4 ∨ (2 : Int) ^ t = 8 ∨ (2 : Int) ^ t = 16 ∨ (2 : Int) ^ t = 32 ∨ (2 : Int) ^ t = 64 := by
  have ht : t = 0 ∨ t = 1 ∨ t = 2 ∨ t = 3 ∨ t = 4 ∨ t = 5 ∨ t = 6 := by omega
  rcases ht with rfl | rfl | rfl | rfl | rfl | rfl | rfl <;> simp

theorem stem_bd (many o i t : Nat) (k : Int) (h1 : 0 < many) (h7 : many ≤ 7) (t6 : t ≤ 6) (k1 : 1 ≤ k) (k2 : k ≤ 1000) : k ≤ stemI many o i t k ∧ stemI many o i t k ≤ 448000 := by
  have hr := rk_lt (many := many) (o := o) (i := i) h1
  unfold stemI
  obtain ⟨r, hr2⟩ : ∃ r, rk many o i = r := ⟨_, rfl⟩
  rw [hr2] at hr ⊢
  have hr3 : r = 0 ∨ r = 1 ∨ r = 2 ∨ r = 3 ∨ r = 4 ∨ r = 5 ∨ r = 6 := by omega
  rcases pow_bd t t6 with h | h | h | h | h | h | h <;> rw [h] <;> rcases hr3 with rfl | rfl | rfl | rfl | rfl | rfl | rfl <;> omega
theorem stem_lt (many o i j t : Nat) (k : Int) (h1 : 0 < many) (h7 : many ≤ 7) (t6 : t ≤ 6) (k1 : 1 ≤ k) (h : rk many o i < rk many o j) : stemI many o i t k + k ≤ stemI many o j t k := by
  have hr := rk_lt (many := many) (o := o) (i := j) h1
  unfold stemI
  obtain ⟨r, hr2⟩ : ∃ r, rk many o i = r := ⟨_, rfl⟩
  obtain ⟨s, hs2⟩ : ∃ s, rk many o j = s := ⟨_, rfl⟩
  rw [hr2] at h ⊢
  rw [hs2] at h hr ⊢
  have hs3 : s = 1 ∨ s = 2 ∨ s = 3 ∨ s = 4 ∨ s = 5 ∨ s = 6 := by omega
  rcases pow_bd t t6 with e | e | e | e | e | e | e <;> rw [e] <;>
    rcases hs3 with rfl | rfl | rfl | rfl | rfl | rfl <;>
    (have hr4 : r = 0 ∨ r = 1 ∨ r = 2 ∨ r = 3 ∨ r = 4 ∨ r = 5 := by omega) <;>
    rcases hr4 with rfl | rfl | rfl | rfl | rfl | rfl <;> omega

end Go.Proofs.Ytflalllbplcgbaa
