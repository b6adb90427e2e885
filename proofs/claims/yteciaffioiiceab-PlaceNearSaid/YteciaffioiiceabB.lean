/-
  Chapter 05: Ring, walked through its text.
-/
import Derived.Test.YteciaffioiiceabC
namespace Go.Proofs.Yteciaffioiiceab
open Go.RowKit

theorem complex_info : (Try.prog.info? 28).map (fun i => (i.zero, i.size, i.bytes)) = some (some (.complex .f64 0 0), 1, 16) := by kernel_rfl

def ringV (k : Nat) : Value := .complex .f64 (ringB k).1 (ringB k).2
def ringL (k : Nat) : List Value := (List.range k).map ringV
theorem ringL_succ (k : Nat) : ringL (k + 1) = ringL k ++ [ringV k] := by simp [ringL, List.range_succ]
theorem ringL_length (k : Nat) : (ringL k).length = k := by simp [ringL]

theorem spin_ring (k : Nat) (hk : k < 64) (w : World) :
    Calls Try.prog 9 #[.complex .f64 (floatOfInt .f64 ((1 + k / 4 : Nat) : Int)) 0, .int .i64 (k : Int)] w fun e w' => e = .returned (ringV k) ∧ w = w' := by
  refine spin_any _ _ _ (k % 4) (ringB k) w (ring_num0 ⟨k, hk⟩) zero_num (ring_spin ⟨k, hk⟩) ?_ (by omega)
  have e1 : (k : Int).tmod 4 = ((k % 4 : Nat) : Int) := by rw [Int.tmod_eq_emod_of_nonneg (by omega)]; omega
  rw [e1, IntWalk.wrap64_in _ (by omega), Int.tmod_eq_emod_of_nonneg (by omega)]
  omega

theorem spin_ring2 (k : Nat) (hk : k < 64) (w : World) :
    Calls Try.prog 9 #[.complex .f64 (floatOfInt .f64 (1 + (k : Int) / 4)) 0, .int .i64 (k : Int)] w fun e w' => e = .returned (.complex .f64 (ringB k).1 (ringB k).2) ∧ w = w' := by
  have e : (1 + (k : Int) / 4) = ((1 + k / 4 : Nat) : Int) := by omega
  rw [e]
  exact spin_ring k hk w
theorem cell_new1 (w : World) (u : Value) (e : TypeId) : (w.alloc (.cells #[u] e)).cell? ⟨w.heap.size, 0, none⟩ = some u := ((Blk.new w e #[u]).cell 0).trans rfl

set_option maxRecDepth 100000 in
set_option maxHeartbeats 1000000 in
theorem ring_any (n : Int) (w : World) (h0 : 0 ≤ n) (h1 : n ≤ 255) :
    Calls Try.prog 6 #[.int .i64 n] w fun e w' => ∃ v, e = .returned v ∧ w'.ownsRow w.heap.size 28 1 v (min n.toNat 64) (ringL (min n.toNat 64)) ∧ Below w.heap.size w w' := by
  obtain ⟨i0, hi0, hz0, hz1, hz2⟩ := info_parts complex_info
  obtain ⟨M, hM⟩ : ∃ M, M = min n.toNat 64 := ⟨_, rfl⟩
  rw [← hM]
  have hM6 : M ≤ 64 := by omega
  rcases Int.lt_or_le 64 n with hn | hn
  · obtain rfl : M = 64 := by omega
    clear hM
    go_enter Try.func6, Try.ntmps6
    go_wp2_with fail
    go_loopg [3, 8] (64 + 1) (fun q v i wr => ∃ k : Nat, i = .int .i64 (k : Int) ∧ k ≤ 64 ∧ q = 64 + 1 - k ∧ wr.ownsRow w.heap.size 28 1 v k (ringL k) ∧ Below w.heap.size w wr)
    case atStart => exact ⟨0, rfl, by omega, by omega, World.ownsRow_nil _ _ _ _, Below.refl _ _⟩
    case round =>
      obtain ⟨k, rfl, hk, rfl, hown, hb⟩ := hrel
      by_cases hlt : k < 64
      · have k1 : (k : Int) < 64 := by omega
        have k6 : k < 64 := by omega
        have d1 : (k : Int).tdiv 4 = ((k / 4 : Nat) : Int) := by rw [Int.tdiv_eq_ediv_of_nonneg (by omega)]; omega
        have d2 : wrap64 ((k / 4 : Nat) : Int) = ((k / 4 : Nat) : Int) := IntWalk.wrap64_in _ (by omega)
        have d3 : wrap64 (1 + ((k / 4 : Nat) : Int)) = ((1 + k / 4 : Nat) : Int) := by rw [IntWalk.wrap64_in _ (by omega)]; omega
        go_wp2_with fail
        refine (spin_ring2 k k6 _).mono ?_
        rintro e w' ⟨rfl, rfl⟩
        go_wp2_with (at_builtin; go_must (refine wpList_append_own _ rfl (.tmp 11) (.tmp 19) _ rfl w.heap.size 28 i0 _ 1 16 Try.underlying23 hi0 hz0 hz1 hz2 rfl (by omega) _ k (ringL k) rfl (hown.alloc _) ⟨wr.heap.size, 0, none⟩ 1 1 [ringV k] rfl rfl (cell_one_new _ _ _) (by intro u hu; simp only [List.mem_singleton] at hu; subst hu; rfl) (by simp only [maxLen]; omega) (by omega) (by have := hb.size; rw [World.size_alloc]; omega) ?_); intro v1 w1 hown1 hgr _)
        have hb1 : Below w.heap.size w w1 := (hb.alloc hb.size _).grown hgr (by have := hb.size; rw [World.size_alloc]; omega) (fun g hg => (hown.lt g hg).1)
        rw [← ringL_succ] at hown1
        go_roundg (64 + 1 - (k + 1))
        case measure => omega
        case rel => exact ⟨k + 1, by go_num, by omega, rfl, hown1, hb1⟩
      · have k1 : ¬ (k : Int) < 64 := by omega
        go_wp2_with fail
        go_ret
        obtain rfl : k = 64 := by omega
        exact ⟨_, rfl, hown, hb⟩

  · obtain rfl : n = (M : Int) := by omega
    clear hM
    go_enter Try.func6, Try.ntmps6
    go_wp2_with fail
    go_loopg [3, 8] (M + 1) (fun q v i wr => ∃ k : Nat, i = .int .i64 (k : Int) ∧ k ≤ M ∧ q = M + 1 - k ∧ wr.ownsRow w.heap.size 28 1 v k (ringL k) ∧ Below w.heap.size w wr)
    case atStart => exact ⟨0, rfl, by omega, by omega, World.ownsRow_nil _ _ _ _, Below.refl _ _⟩
    case round =>
      obtain ⟨k, rfl, hk, rfl, hown, hb⟩ := hrel
      by_cases hlt : k < M
      · have k1 : (k : Int) < M := by omega
        have k6 : k < 64 := by omega
        have d1 : (k : Int).tdiv 4 = ((k / 4 : Nat) : Int) := by rw [Int.tdiv_eq_ediv_of_nonneg (by omega)]; omega
        have d2 : wrap64 ((k / 4 : Nat) : Int) = ((k / 4 : Nat) : Int) := IntWalk.wrap64_in _ (by omega)
        have d3 : wrap64 (1 + ((k / 4 : Nat) : Int)) = ((1 + k / 4 : Nat) : Int) := by rw [IntWalk.wrap64_in _ (by omega)]; omega
        go_wp2_with fail
        refine (spin_ring2 k k6 _).mono ?_
        rintro e w' ⟨rfl, rfl⟩
        go_wp2_with (at_builtin; go_must (refine wpList_append_own _ rfl (.tmp 11) (.tmp 19) _ rfl w.heap.size 28 i0 _ 1 16 Try.underlying23 hi0 hz0 hz1 hz2 rfl (by omega) _ k (ringL k) rfl (hown.alloc _) ⟨wr.heap.size, 0, none⟩ 1 1 [ringV k] rfl rfl (cell_one_new _ _ _) (by intro u hu; simp only [List.mem_singleton] at hu; subst hu; rfl) (by simp only [maxLen]; omega) (by omega) (by have := hb.size; rw [World.size_alloc]; omega) ?_); intro v1 w1 hown1 hgr _)
        have hb1 : Below w.heap.size w w1 := (hb.alloc hb.size _).grown hgr (by have := hb.size; rw [World.size_alloc]; omega) (fun g hg => (hown.lt g hg).1)
        rw [← ringL_succ] at hown1
        go_roundg (M + 1 - (k + 1))
        case measure => omega
        case rel => exact ⟨k + 1, by go_num, by omega, rfl, hown1, hb1⟩
      · have k1 : ¬ (k : Int) < M := by omega
        go_wp2_with fail
        go_ret
        obtain rfl : k = M := by omega
        exact ⟨_, rfl, hown, hb⟩


end Go.Proofs.Yteciaffioiiceab
