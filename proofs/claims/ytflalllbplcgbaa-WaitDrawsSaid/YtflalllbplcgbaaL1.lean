/-
  Chapter 18: WaitDraws, walked: a draw hangs on the state alone, and two states go on to two.
-/
import Derived.Test.YtflalllbplcgbaaY
namespace Go.Proofs.Ytflalllbplcgbaa
open Go.RowKit Go.Sort Go.Maps Go.Shelf

theorem lcg_inj (a b : Int) (ha : 0 ≤ a ∧ a < 18446744073709551616) (hb : 0 ≤ b ∧ b < 18446744073709551616) (h : (a * 6364136223846793005 + 1442695040888963407) % 18446744073709551616 = (b * 6364136223846793005 + 1442695040888963407) % 18446744073709551616) : a = b := by
  have h1 := Int.emod_eq_emod_iff_emod_sub_eq_zero.1 h
  obtain ⟨k, hk⟩ := Int.dvd_of_emod_eq_zero h1
  have hd : (a - b) * 6364136223846793005 = 18446744073709551616 * k := by
    rw [Int.sub_mul, ← hk]
    clear ha hb h h1 hk
    generalize a * 6364136223846793005 = x
    generalize b * 6364136223846793005 = y
    omega
  have e : (6364136223846793005 : Int) * 13877824140714322085 = 1 + 18446744073709551616 * 4787856489426250814 := by decide +kernel
  have h3 : (a - b) * (1 + 18446744073709551616 * 4787856489426250814) = 18446744073709551616 * (k * 13877824140714322085) := by
    rw [← e, ← Int.mul_assoc, hd, Int.mul_assoc]
  rw [Int.mul_add, Int.mul_one] at h3
  have h4 : a - b = 18446744073709551616 * (k * 13877824140714322085 - (a - b) * 4787856489426250814) := by
    rw [Int.mul_sub, ← h3]
    have : (a - b) * (18446744073709551616 * 4787856489426250814) = 18446744073709551616 * ((a - b) * 4787856489426250814) := by
      rw [← Int.mul_assoc, ← Int.mul_assoc, Int.mul_comm (a - b)]
    rw [this]
    exact (Int.add_sub_cancel _ _).symm
  clear h h1 hk hd e h3
  generalize k * 13877824140714322085 - (a - b) * 4787856489426250814 = t at h4
  omega

theorem nextI_eq (s : Int) : nextI s = (s * 6364136223846793005 + 1442695040888963407) % 18446744073709551616 := by
  have h : ∀ x : Int, IntKind.u64.wrap x = x % 18446744073709551616 := fun x => by simp [IntKind.wrap, IntKind.bits, IntKind.signed]
  unfold nextI
  rw [h, h, Int.emod_add_emod]
theorem nextI_bd (s : Int) : 0 ≤ nextI s ∧ nextI s < 18446744073709551616 := by
  rw [nextI_eq]
  generalize s * 6364136223846793005 + 1442695040888963407 = x
  omega
theorem nextI_inj (a b : Int) (ha : 0 ≤ a ∧ a < 18446744073709551616) (hb : 0 ≤ b ∧ b < 18446744073709551616) (h : nextI a = nextI b) : a = b := by
  rw [nextI_eq, nextI_eq] at h
  exact lcg_inj a b ha hb h
theorem nextI_div (s : Int) : nextI s / 8589934592 < 2147483648 := by
  have h := nextI_bd s
  generalize nextI s = x at h ⊢
  omega
theorem next_same (a b : Int) (ha : 0 ≤ a ∧ a < 18446744073709551616) (hb : 0 ≤ b ∧ b < 18446744073709551616) : ((a == b) == (nextI a == nextI b)) = true := by
  by_cases h : a = b
  · subst h; simp
  · have h2 : ¬ nextI a = nextI b := fun e => h (nextI_inj a b ha hb e)
    rw [beq_eq_false_iff_ne.2 h, beq_eq_false_iff_ne.2 h2]
    rfl

set_option maxHeartbeats 1000000 in
theorem draws_law (a b : Int) (w : World) (ha : 0 ≤ a ∧ a ≤ 18446744073709551615) (hb : 0 ≤ b ∧ b ≤ 18446744073709551615) :
    Calls Try.prog 7 #[.int .u64 a, .int .u64 b] w fun e w' => e = .returned (.bool true) ∧ Below w.heap.size w w' := by
  have h1 := nextI_div a
  have h2 := nextI_div b
  have h3 := next_same a b ⟨ha.1, by omega⟩ ⟨hb.1, by omega⟩
  clear ha hb
  go_enter Try.func7, Try.ntmps7
  go_wp2_with fail
  refine (examples_any w).mono ?_
  rintro e w1 ⟨rfl, hb1⟩
  have B1 := hide hb1
  clear hb1
  go_wp2_with fail
  refine (draw_any a _).mono ?_
  rintro e w2 ⟨rfl, rfl⟩
  go_wp2_with fail
  refine (draw_any b _).mono ?_
  rintro e w2 ⟨rfl, rfl⟩
  go_wp2_with fail
  go_ret
  exact ⟨rfl, B1.out⟩

end Go.Proofs.Ytflalllbplcgbaa
