/-
  Chapter 18: Rank, Delay, Draw: walked.
-/
import Derived.Test.YtflalllbplcgbaaU
import Derived.Test.YtflalllbplcgbaaK3
namespace Go.Proofs.Ytflalllbplcgbaa
open Go.RowKit Go.Sort Go.Maps Go.Shelf

def inB (n k : Int) : Bool := decide (1 ≤ k) && decide (k ≤ n)

set_option maxHeartbeats 400000 in
theorem in_any (n k : Int) (g : Nat) (w : World) (hg : w.cell? ⟨g, 0, none⟩ = some (.int .i64 n)) :
    Calls Try.prog 27 #[.int .i64 k, .pointer (some ⟨g, 0, none⟩)] w fun e w' => e = .returned (.bool (inB n k)) ∧ w = w' := by
  unfold inB
  rcases Int.lt_or_le k 1 with h | h
  · rw [show decide (1 ≤ k) = false from by simp; omega, Bool.false_and]
    have h' : ¬ 1 ≤ k := by omega
    go_enter Try.func27, Try.ntmps27
    go_wp2_with fail
    go_ret
    exact ⟨rfl, rfl⟩
  · rw [show decide (1 ≤ k) = true from by simpa using h, Bool.true_and]
    rcases Int.lt_or_le n k with h2 | h2
    · rw [show decide (k ≤ n) = false from by simp; omega]
      have h' : ¬ k ≤ n := by omega
      go_enter Try.func27, Try.ntmps27
      go_wp2_with fail
      go_ret
      exact ⟨rfl, rfl⟩
    · rw [show decide (k ≤ n) = true from by simpa using h2]
      go_enter Try.func27, Try.ntmps27
      go_wp2_with fail
      go_ret
      exact ⟨rfl, rfl⟩

def rankI (n me owner : Int) : Int := if 7 < n then 0 else if inB n me = false then 0 else if inB n owner = false then 0 else (me - owner + n) % n

theorem inB_true {n k : Int} : inB n k = true ↔ 1 ≤ k ∧ k ≤ n := by simp [inB]

set_option maxHeartbeats 1000000 in
theorem rank_any (n me owner : Int) (w : World) : Calls Try.prog 13 #[.int .i64 n, .int .i64 me, .int .i64 owner] w fun e w' => e = .returned (.int .i64 (rankI n me owner)) ∧ Gr w w' := by
  have hc : (w.alloc (.cells #[.int .i64 n] 3)).cell? ⟨w.heap.size, 0, none⟩ = some (.int .i64 n) := ((Blk.new w 3 #[.int .i64 n]).cell 0).trans rfl
  obtain ⟨r, hr⟩ : ∃ r, r = rankI n me owner := ⟨_, rfl⟩
  rw [← hr]
  rcases Int.lt_or_le 7 n with h7 | h7
  · rw [rankI, if_pos h7] at hr
    subst hr
    go_enter Try.func13, Try.ntmps13
    go_wp2_with fail
    refine wp_scope_once 0 rfl ?_
    go_wp2_with fail
    go_step3
    refine once_goto ?_
    go_wp2_with fail
    refine noGoto_ret' ?_
    go_ret
    exact ⟨rfl, (Gr.refl w).alloc _⟩
  · rw [rankI, if_neg (by omega)] at hr
    have h7' : ¬ 7 < n := by omega
    have HC := hide hc
    cases hm : inB n me with
    | false =>
      rw [if_pos hm] at hr
      subst hr
      have HM := hide hm
      clear hm
      go_enter Try.func13, Try.ntmps13
      go_wp2_with fail
      refine wp_scope_once 0 rfl ?_
      go_wp2_with fail
      refine (in_any n me w.heap.size _ HC.out).mono ?_
      rw [HM.out]
      rintro e w1 ⟨rfl, rfl⟩
      go_wp2_with fail
      go_step3
      refine once_goto ?_
      go_wp2_with fail
      refine noGoto_ret' ?_
      go_ret
      exact ⟨rfl, (Gr.refl w).alloc _⟩
    | true =>
      rw [if_neg (by rw [hm]; simp)] at hr
      cases ho : inB n owner with
      | false =>
        rw [if_pos ho] at hr
        subst hr
        have HM := hide hm
        have HO := hide ho
        clear hm ho
        go_enter Try.func13, Try.ntmps13
        go_wp2_with fail
        refine wp_scope_once 0 rfl ?_
        go_wp2_with fail
        refine (in_any n me w.heap.size _ HC.out).mono ?_
        rw [HM.out]
        rintro e w1 ⟨rfl, rfl⟩
        go_wp2_with fail
        refine (in_any n owner w.heap.size _ HC.out).mono ?_
        rw [HO.out]
        rintro e w1 ⟨rfl, rfl⟩
        go_wp2_with fail
        go_step3
        refine once_goto ?_
        go_wp2_with fail
        refine noGoto_ret' ?_
        go_ret
        exact ⟨rfl, (Gr.refl w).alloc _⟩
      | true =>
        rw [if_neg (by rw [ho]; simp)] at hr
        obtain ⟨m1, m2⟩ := inB_true.1 hm
        obtain ⟨o1, o2⟩ := inB_true.1 ho
        have R := hide hr
        have HM := hide hm
        have HO := hide ho
        clear hm ho hr
        go_enter Try.func13, Try.ntmps13
        go_wp2_with fail
        refine wp_scope_once 0 rfl ?_
        go_wp2_with fail
        refine (in_any n me w.heap.size _ HC.out).mono ?_
        rw [HM.out]
        rintro e w1 ⟨rfl, rfl⟩
        go_wp2_with fail
        refine (in_any n owner w.heap.size _ HC.out).mono ?_
        rw [HO.out]
        rintro e w1 ⟨rfl, rfl⟩
        go_wp2_with fail
        refine once_ret ?_
        go_ret
        exact ⟨by rw [R.out]; rfl, (Gr.refl w).alloc _⟩

/-- The next state. -/
def nextI (s : Int) : Int := IntKind.u64.wrap (IntKind.u64.wrap (s * 6364136223846793005) + 1442695040888963407)

set_option maxHeartbeats 1000000 in
theorem draw_any (s : Int) (w : World) : Calls Try.prog 11 #[.int .u64 s] w fun e w' => e = .returned (.tuple #[.int .u64 (nextI s / 8589934592), .int .u64 (nextI s)]) ∧ w = w' := by
  go_enter Try.func11, Try.ntmps11
  go_wp2_with fail
  go_ret2
  exact ⟨rfl, rfl⟩

theorem rankI_bd (n me owner : Int) : 0 ≤ rankI n me owner ∧ rankI n me owner ≤ 6 := by
  unfold rankI
  split
  · omega
  · split
    · omega
    · rename_i h1 h2
      have h3 := inB_true.1 (by simpa using h2)
      split
      · omega
      · have := Int.emod_nonneg (me - owner + n) (show n ≠ 0 by omega)
        have := Int.emod_lt_of_pos (me - owner + n) (show 0 < n by omega)
        omega

/-- How long one waits. -/
def delayI (n me owner tries base draw : Int) : Int :=
  max (min base 1000) 1 * (rankI n me owner + 1) * (2 : Int) ^ (max (min tries 6) 0).toNat + draw % (max (min base 1000) 1)

theorem delay_wrap (b r d : Int) (t : Nat) (b1 : 1 ≤ b) (b2 : b ≤ 1000) (r0 : 0 ≤ r) (r6 : r ≤ 6) (t6 : (t : Int) ≤ 6) :
    IntKind.u64.wrap (IntKind.u64.wrap (IntKind.u64.wrap (b * (r + 1)) * 2 ^ t) + d % b) = b * (r + 1) * 2 ^ t + d % b := by
  have d0 := Int.emod_nonneg d (show b ≠ 0 by omega)
  have d1 := Int.emod_lt_of_pos d (show 0 < b by omega)
  have ht : t = 0 ∨ t = 1 ∨ t = 2 ∨ t = 3 ∨ t = 4 ∨ t = 5 ∨ t = 6 := by omega
  have hr : r = 0 ∨ r = 1 ∨ r = 2 ∨ r = 3 ∨ r = 4 ∨ r = 5 ∨ r = 6 := by omega
  have hp : ∃ p, p = b * (r + 1) ∧ 0 ≤ p ∧ p ≤ 7000 := by
    refine ⟨_, rfl, ?_⟩
    rcases hr with rfl | rfl | rfl | rfl | rfl | rfl | rfl <;> omega
  obtain ⟨p, hp, p0, p1⟩ := hp
  rw [← hp, IntWalk.u64_in p (by omega)]
  have h2 : (2 : Int) ^ t = 1 ∨ (2 : Int) ^ t = 2 ∨ (2 : Int) ^ t = 4 ∨ (2 : Int) ^ t = 8 ∨ (2 : Int) ^ t = 16 ∨ (2 : Int) ^ t = 32 ∨ (2 : Int) ^ t = 64 := by
    rcases ht with rfl | rfl | rfl | rfl | rfl | rfl | rfl <;> simp
  rcases h2 with h | h | h | h | h | h | h <;> rw [h, IntWalk.u64_in (p * _) (by omega), IntWalk.u64_in _ (by omega)]

set_option maxHeartbeats 1000000 in
theorem delay_any (n me owner tries base draw : Int) (w : World) (hd : 0 ≤ draw) :
    Calls Try.prog 15 #[.int .i64 n, .int .i64 me, .int .i64 owner, .int .i64 tries, .int .u64 base, .int .u64 draw] w fun e w' => e = .returned (.int .u64 (delayI n me owner tries base draw)) ∧ Gr w w' := by
  obtain ⟨b, hbe⟩ : ∃ b, max (min base 1000) 1 = b := ⟨_, rfl⟩
  have b1 : 1 ≤ b := by omega
  have b2 : b ≤ 1000 := by omega
  obtain ⟨t, hte⟩ : ∃ t : Nat, max (min tries 6) 0 = (t : Int) := ⟨(max (min tries 6) 0).toNat, by omega⟩
  have t6 : (t : Int) ≤ 6 := by omega
  obtain ⟨r, hr⟩ : ∃ r, r = rankI n me owner := ⟨_, rfl⟩
  have hbd := rankI_bd n me owner
  rw [← hr] at hbd
  obtain ⟨r0, r6⟩ := hbd
  have HR : ∀ W, Calls Try.prog 13 #[.int .i64 n, .int .i64 me, .int .i64 owner] W fun e w' => e = .returned (.int .i64 r) ∧ Gr W w' := fun W => by rw [hr]; exact rank_any _ _ _ W
  have HRH := hide HR
  obtain ⟨D, hD⟩ : ∃ D, D = delayI n me owner tries base draw := ⟨_, rfl⟩
  have hD2 : D = IntKind.u64.wrap (IntKind.u64.wrap (IntKind.u64.wrap (b * (r + 1)) * 2 ^ t) + draw % b) := by
    rw [delay_wrap b r draw t b1 b2 r0 r6 t6, hD, delayI, hbe, hte, hr, Int.toNat_natCast]
  rw [← hD]
  have DD := hide hD2
  have b0 : ¬ b = 0 := by omega
  have hrem : draw.tmod b = draw % b := Int.tmod_eq_emod_of_nonneg hd
  have w1 : IntKind.i64.wrap (r + 1) = r + 1 := IntWalk.i64_in _ (by omega)
  have w2 : IntKind.u64.wrap (r + 1) = r + 1 := IntWalk.u64_in _ (by omega)
  clear HR hr hD hD2
  go_enter Try.func15, Try.ntmps15
  go_wp2_with fail
  go_region_held3 (fun _ => True) (trivial) ((go_at_call 13; refine (HRH.out _).mono ?_; rintro e w1 ⟨rfl, hg⟩))
  all_goals

    go_wp2_with fail
    go_ret
    exact ⟨by rw [DD.out]; rfl, ((Gr.refl w).drew).trans hg⟩

end Go.Proofs.Ytflalllbplcgbaa
