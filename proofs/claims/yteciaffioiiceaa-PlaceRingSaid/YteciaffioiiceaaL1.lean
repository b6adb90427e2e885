/-
  Chapter 05: PlaceRing, walked: every ring is as the statement says.
-/
import Derived.Test.YteciaffioiiceaaH
namespace Go.Proofs.Yteciaffioiiceaa
open Go.RowKit Go.Sort Go.Lib Go.Shelf

theorem cne_run (a b c d : Nat) (r : Bool) (h : (!(FloatKind.f64.format.order a c == some .eq && FloatKind.f64.format.order b d == some .eq)) = r) (t : TypeId) (W : World) :
    (binOp .neq t (.complex .f64 a b) (.complex .f64 c d)).run Try.prog W = .ok (.bool r) W := by
  rw [run_neq_complex, h]

theorem ring_eql (i k : Nat) (hi : i < 64) (hk : k < i) (t : TypeId) (W : World) :
    (binOp .eql t (.complex .f64 (ringB i).1 (ringB i).2) (.complex .f64 (ringB k).1 (ringB k).2)).run Try.prog W = .ok (.bool false) W :=
  ceq_run _ _ _ _ _ (ring_ne ⟨i, hi⟩ ⟨k, by omega⟩ hk) t W
theorem ring_neq (i : Nat) (hi : i < 64) (h : 0 < i % 4) (t : TypeId) (W : World) :
    (binOp .neq t (.complex .f64 (ringB i).1 (ringB i).2) (.complex .f64 (ringB i).1 (ringB i).2)).run Try.prog W = .ok (.bool false) W := by
  have h2 : (eqB (ringB i).1 (ringB i).1 && eqB (ringB i).2 (ringB i).2) = true := (ring_turn ⟨i, hi⟩ h).2
  exact cne_run _ _ _ _ _ (by unfold eqB at h2; rw [h2]; rfl) t W
theorem right_ring (i : Nat) (hi : i < 64) (w : World) : Calls Try.prog 6 #[.complex .f64 (ringB i).1 (ringB i).2] w fun e w' => e = .returned (.bool true) ∧ w = w' := by
  have h := right_any _ _ w (ring_num ⟨i, hi⟩).1 (ring_num ⟨i, hi⟩).2.1
  rw [(ring_num ⟨i, hi⟩).2.2] at h
  exact h
theorem spin_turn (i : Nat) (hi : i + 1 < 64) (h : 0 < (i + 1) % 4) (w : World) : Calls Try.prog 7 #[.complex .f64 (ringB i).1 (ringB i).2, .int .i64 1] w fun e w' => e = .returned (.complex .f64 (ringB (i + 1)).1 (ringB (i + 1)).2) ∧ w = w' :=
  spin_any _ _ 1 1 _ w (ring_num ⟨i, by omega⟩).1 (ring_num ⟨i, by omega⟩).2.1 (ring_turn ⟨i + 1, hi⟩ h).1 (by rw [show (Int.tmod 1 4 + 4) = (5 : Int) from rfl, IntWalk.wrap64_in _ (by omega)]; rfl) (by omega)
def sqI (i : Nat) : Int := (((1 + i / 4) * (1 + i / 4) : Nat) : Int)
theorem far_ring (i : Nat) (hi : i < 64) (w : World) : Calls Try.prog 8 #[.complex .f64 (ringB i).1 (ringB i).2, .complex .f64 0 0] w fun e w' => e = .returned (.int .u64 (sqI i)) ∧ w = w' :=
  far_any _ _ _ _ _ w (ring_num ⟨i, hi⟩).1 (ring_num ⟨i, hi⟩).2.1 zero_num zero_num (ring_far ⟨i, hi⟩)
theorem spin_turn_q (i : Nat) (hi : i + 1 < 64) (h : 0 < (i + 1) % 4) (w : World) : Calls Try.prog 7 #[.complex .f64 (ringB i).1 (ringB i).2, .int .i64 1] w fun e w' => e = .returned (.complex .f64 (ringB (i + 1)).1 (ringB (i + 1)).2) ∧ ∃ q, w' = w.drewN q :=
  (spin_turn i hi h w).mono fun _ _ ⟨h, k⟩ => ⟨h, 0, by rw [← k]; rfl⟩
theorem far_ring_q (i : Nat) (hi : i < 64) (w : World) : Calls Try.prog 8 #[.complex .f64 (ringB i).1 (ringB i).2, .complex .f64 0 0] w fun e w' => e = .returned (.int .u64 (sqI i)) ∧ ∃ q, w' = w.drewN q :=
  (far_ring i hi w).mono fun _ _ ⟨h, k⟩ => ⟨h, 0, by rw [← k]; rfl⟩
theorem sq_lt (p : Nat) : sqI p < sqI (p + 4) := by
  unfold sqI
  have : (p + 4) / 4 = p / 4 + 1 := by omega
  rw [this]
  have := Nat.mul_lt_mul_of_lt_of_lt (show 1 + p / 4 < 1 + (p / 4 + 1) by omega) (show 1 + p / 4 < 1 + (p / 4 + 1) by omega)
  omega

set_option maxRecDepth 100000 in
set_option maxHeartbeats 4000000 in
theorem ring_law (n : Int) (w : World) (h0 : 0 ≤ n) (h1 : n ≤ 255) :
    Calls Try.prog 3 #[.int .u8 n] w fun e w' => e = .returned (.bool true) ∧ Below w.heap.size w w' := by
  obtain ⟨M, hM⟩ : ∃ M, M = min n.toNat 64 := ⟨_, rfl⟩
  have hmin : ((M : Int) != min n 64) = false := by rw [bne_eq_false_iff_eq]; omega
  have hM6 : M ≤ 64 := by omega
  have MM := hide hM
  clear hM
  go_enter Try.func3, Try.ntmps3
  go_wp2_with fail
  refine (examples_any w).mono ?_
  rintro e w1 ⟨rfl, hb1⟩
  have B1 := hide hb1
  clear hb1
  go_wp2_with fail
  refine (ring_any n w1 h0 h1).mono ?_
  rw [← MM.out]
  rintro e w2 ⟨v, rfl, own, hb2⟩
  obtain ⟨A, cap, rfl⟩ := own_slice own
  have hB2 : Below w.heap.size w w2 := B1.out.trans (hb2.mono B1.out.size)
  have B2 := hide hB2
  have OWN := hide own
  clear hb2 hB2 own B1
  go_wp2_with fail
  clear hmin
  go_loopg [5, 6] (M + 1) (fun q i u6 wr => ∃ k d : Nat, i = .int .i64 (k : Int) ∧ k ≤ M ∧ q = M + 1 - k ∧ wr = w2.drewN d)
  case atStart => exact ⟨0, 0, rfl, by omega, by omega, rfl⟩
  case round =>
    obtain ⟨i, d, rfl, hi, rfl, rfl⟩ := hrel
    by_cases hlt : i < M
    · have i1 : (i : Int) < M := by omega
      have i0 : (0 : Int) ≤ i := by omega
      obtain ⟨g, cap', hv, _, _, hc⟩ := own_at OWN.out (by omega)
      obtain ⟨rfl, rfl⟩ : A = some ⟨g, 0, none⟩ ∧ cap' = cap := by injection hv with a b c; exact ⟨a, c.symm⟩
      obtain ⟨wd, hwd⟩ : ∃ wd, wd = w2.drewN d := ⟨_, rfl⟩
      have hcell : ∀ k, k < M → wd.cell? ⟨g, k, none⟩ = some (.complex .f64 (ringB k).1 (ringB k).2) := fun k hk => by rw [hwd]; exact hc k _ (ringL_at M k hk)
      rw [← hwd]
      have WD := hide hwd
      have HC := hide hcell
      have ci := hcell i hlt
      clear hwd hcell hc hv
      go_wp2_with fail
      refine (right_ring i (by omega) _).mono ?_
      rintro e w' ⟨rfl, rfl⟩
      go_wp2_with fail
      clear ci
      go_loopg [6] (i + 1) (fun q x wr => ∃ k d : Nat, x = .int .i64 (k : Int) ∧ k ≤ i ∧ q = i + 1 - k ∧ wr = wd.drewN d)
      case atStart => exact ⟨0, 0, rfl, by omega, by omega, rfl⟩
      case round =>
        obtain ⟨k, e, rfl, hk, rfl, rfl⟩ := hrel
        by_cases hlk : k < i
        · have k1 : (k : Int) < i := by omega
          have k2 : (k : Int) < M := by omega
          have k0 : (0 : Int) ≤ k := by omega
          obtain ⟨we, hwe⟩ : ∃ we, we = wd.drewN e := ⟨_, rfl⟩
          have ci : we.cell? ⟨g, i, none⟩ = some (.complex .f64 (ringB i).1 (ringB i).2) := by rw [hwe]; exact HC.out i hlt
          have ck : we.cell? ⟨g, k, none⟩ = some (.complex .f64 (ringB k).1 (ringB k).2) := by rw [hwe]; exact HC.out k (by omega)
          have hq := ring_eql i k (by omega) hlk
          rw [← hwe]
          have WE := hide hwe
          clear hwe
          go_wp2_with fail
          go_quiet (fail)
          go_wp2_with fail
          go_roundg (i + 1 - (k + 1))
          case measure => omega
          case rel => exact ⟨k + 1, e + nq, by go_num, by omega, rfl, by rw [WE.out, World.drewN_drewN]⟩
        · have k1 : ¬ (k : Int) < i := by omega
          obtain rfl : k = i := by omega
          obtain ⟨we, hwe⟩ : ∃ we, we = wd.drewN e := ⟨_, rfl⟩
          have hk4 : k = 0 ∨ k = 1 ∨ k = 2 ∨ k = 3 ∨ (∃ p, k = p + 4 ∧ p % 4 = 0) ∨ (∃ p, k = p + 4 ∧ 0 < p % 4) := by
            rcases Nat.lt_or_ge k 4 with h | h
            · omega
            · rcases Nat.eq_zero_or_pos (k % 4) with h4 | h4
              · exact .inr (.inr (.inr (.inr (.inl ⟨k - 4, by omega, by omega⟩))))
              · exact .inr (.inr (.inr (.inr (.inr ⟨k - 4, by omega, by omega⟩))))
          rcases hk4 with rfl | rfl | rfl | rfl | ⟨p, rfl, hp⟩ | ⟨p, rfl, hp⟩
          · rw [← hwe]
            have WE := hide hwe
            clear hwe
            go_wp2_with fail
            go_quiet (fail)
            go_wp2_with fail
            go_roundg (M + 1 - (0 + 1))
            case measure => omega
            case rel => exact ⟨0 + 1, d + e + nq, by go_num, by omega, rfl, by rw [WE.out, WD.out, World.drewN_drewN, World.drewN_drewN, Nat.add_assoc]⟩
          · have c1 := HC.out 1 hlt
            have c0 := HC.out 0 (by omega)
            have d1 : we.cell? ⟨g, 1, none⟩ = some (.complex .f64 (ringB 1).1 (ringB 1).2) := by rw [hwe]; exact c1
            have d0 : we.cell? ⟨g, 0, none⟩ = some (.complex .f64 (ringB 0).1 (ringB 0).2) := by rw [hwe]; exact c0
            have hq := ring_neq 1 (by omega) (by omega)
            have hs := spin_turn_q 0 (by omega) (by omega)
            have m1 : (1 : Int) < M := by omega
            have m0 : (0 : Int) < M := by omega
            clear c1 c0
            rw [← hwe]
            have WE := hide hwe
            have HS := hide hs
            clear hwe hs
            go_wp2_with fail
            go_quiet ((go_at_call 7; exact Calls.quiet_of (HS.out _)))
            go_wp2_with fail
            go_roundg (M + 1 - (1 + 1))
            case measure => omega
            case rel => exact ⟨1 + 1, d + e + nq, by go_num, by omega, rfl, by rw [WE.out, WD.out, World.drewN_drewN, World.drewN_drewN, Nat.add_assoc]⟩
          · have c1 := HC.out 2 hlt
            have c0 := HC.out 1 (by omega)
            have d1 : we.cell? ⟨g, 2, none⟩ = some (.complex .f64 (ringB 2).1 (ringB 2).2) := by rw [hwe]; exact c1
            have d0 : we.cell? ⟨g, 1, none⟩ = some (.complex .f64 (ringB 1).1 (ringB 1).2) := by rw [hwe]; exact c0
            have hq := ring_neq 2 (by omega) (by omega)
            have hs := spin_turn_q 1 (by omega) (by omega)
            have m1 : (2 : Int) < M := by omega
            have m0 : (1 : Int) < M := by omega
            clear c1 c0
            rw [← hwe]
            have WE := hide hwe
            have HS := hide hs
            clear hwe hs
            go_wp2_with fail
            go_quiet ((go_at_call 7; exact Calls.quiet_of (HS.out _)))
            go_wp2_with fail
            go_roundg (M + 1 - (2 + 1))
            case measure => omega
            case rel => exact ⟨2 + 1, d + e + nq, by go_num, by omega, rfl, by rw [WE.out, WD.out, World.drewN_drewN, World.drewN_drewN, Nat.add_assoc]⟩
          · have c1 := HC.out 3 hlt
            have c0 := HC.out 2 (by omega)
            have d1 : we.cell? ⟨g, 3, none⟩ = some (.complex .f64 (ringB 3).1 (ringB 3).2) := by rw [hwe]; exact c1
            have d0 : we.cell? ⟨g, 2, none⟩ = some (.complex .f64 (ringB 2).1 (ringB 2).2) := by rw [hwe]; exact c0
            have hq := ring_neq 3 (by omega) (by omega)
            have hs := spin_turn_q 2 (by omega) (by omega)
            have m1 : (3 : Int) < M := by omega
            have m0 : (2 : Int) < M := by omega
            clear c1 c0
            rw [← hwe]
            have WE := hide hwe
            have HS := hide hs
            clear hwe hs
            go_wp2_with fail
            go_quiet ((go_at_call 7; exact Calls.quiet_of (HS.out _)))
            go_wp2_with fail
            go_roundg (M + 1 - (3 + 1))
            case measure => omega
            case rel => exact ⟨3 + 1, d + e + nq, by go_num, by omega, rfl, by rw [WE.out, WD.out, World.drewN_drewN, World.drewN_drewN, Nat.add_assoc]⟩
          · have c4 := HC.out (p + 4) hlt
            have c0 := HC.out p (by omega)
            have hg : decide ((0 : Int) < (p : Int) % 4) = false := by rw [decide_eq_false_iff_not]; omega
            have hr : ((p : Int) + 4).tmod 4 = ((p : Int) + 4) % 4 := Int.tmod_eq_emod_of_nonneg (by omega)
            have d4 : we.cell? ⟨g, p + 4, none⟩ = some (.complex .f64 (ringB (p + 4)).1 (ringB (p + 4)).2) := by rw [hwe]; exact c4
            have d0 : we.cell? ⟨g, p, none⟩ = some (.complex .f64 (ringB p).1 (ringB p).2) := by rw [hwe]; exact c0
            have f4 := far_ring_q (p + 4) (by omega)
            have f0 := far_ring_q p (by omega)
            have hf := sq_lt p
            have m4 : (p : Int) + 4 < M := by omega
            have m0 : (p : Int) < M := by omega
            have m4' : (0 : Int) ≤ (p : Int) + 4 := by omega
            have m0' : (0 : Int) ≤ (p : Int) := by omega
            have m5 : (0 : Int) < (p : Int) + 4 := by omega
            have w4 : IntKind.i64.wrap ((p : Int) + 4 - 4) = (p : Int) := by rw [IntWalk.i64_in _ (by omega)]; omega
            have hle : decide (sqI (p + 4) ≤ sqI p) = false := by rw [decide_eq_false_iff_not]; omega
            have hge : decide ((4 : Int) ≤ (p : Int) + 4) = true := by rw [decide_eq_true_iff]; omega
            clear c4 c0 hf
            rw [← hwe]
            have WE := hide hwe
            have F4 := hide f4
            have F0 := hide f0
            clear hwe f4 f0
            go_wp2_with fail
            go_quiet ((first | (go_at_call 8; exact Calls.quiet_of (far_ring_q _ (by omega) _))))
            go_wp2_with fail
            go_roundg (M + 1 - ((p + 4) + 1))
            case measure => omega
            case rel => exact ⟨p + 4 + 1, d + e + nq, by go_num, by omega, rfl, by rw [WE.out, WD.out, World.drewN_drewN, World.drewN_drewN, Nat.add_assoc]⟩
          · have c4 := HC.out (p + 4) hlt
            have c0 := HC.out p (by omega)
            have c3 := HC.out (p + 3) (by omega)
            have d3 : we.cell? ⟨g, p + 3, none⟩ = some (.complex .f64 (ringB (p + 3)).1 (ringB (p + 3)).2) := by rw [hwe]; exact c3
            have hq := ring_neq (p + 4) (by omega) (by omega)
            have hs := spin_turn_q (p + 3) (by omega) (by omega)
            have m3 : (p : Int) + 3 < M := by omega
            have m3' : (0 : Int) ≤ (p : Int) + 3 := by omega
            have w3 : IntKind.i64.wrap ((p : Int) + 4 - 1) = (p : Int) + 3 := by rw [IntWalk.i64_in _ (by omega)]; omega
            have hg : decide ((0 : Int) < (p : Int) % 4) = true := by rw [decide_eq_true_iff]; omega
            clear c3
            have hr : ((p : Int) + 4).tmod 4 = ((p : Int) + 4) % 4 := Int.tmod_eq_emod_of_nonneg (by omega)
            have d4 : we.cell? ⟨g, p + 4, none⟩ = some (.complex .f64 (ringB (p + 4)).1 (ringB (p + 4)).2) := by rw [hwe]; exact c4
            have d0 : we.cell? ⟨g, p, none⟩ = some (.complex .f64 (ringB p).1 (ringB p).2) := by rw [hwe]; exact c0
            have f4 := far_ring_q (p + 4) (by omega)
            have f0 := far_ring_q p (by omega)
            have hf := sq_lt p
            have m4 : (p : Int) + 4 < M := by omega
            have m0 : (p : Int) < M := by omega
            have m4' : (0 : Int) ≤ (p : Int) + 4 := by omega
            have m0' : (0 : Int) ≤ (p : Int) := by omega
            have m5 : (0 : Int) < (p : Int) + 4 := by omega
            have w4 : IntKind.i64.wrap ((p : Int) + 4 - 4) = (p : Int) := by rw [IntWalk.i64_in _ (by omega)]; omega
            have hle : decide (sqI (p + 4) ≤ sqI p) = false := by rw [decide_eq_false_iff_not]; omega
            have hge : decide ((4 : Int) ≤ (p : Int) + 4) = true := by rw [decide_eq_true_iff]; omega
            clear c4 c0 hf
            rw [← hwe]
            have WE := hide hwe
            have F4 := hide f4
            have F0 := hide f0
            clear hwe f4 f0
            have HS := hide hs
            clear hs
            go_wp2_with fail
            go_quiet ((first | (go_at_call 8; exact Calls.quiet_of (far_ring_q _ (by omega) _)) | (go_at_call 7; exact Calls.quiet_of (HS.out _))))
            go_wp2_with fail
            go_roundg (M + 1 - ((p + 4) + 1))
            case measure => omega
            case rel => exact ⟨p + 4 + 1, d + e + nq, by go_num, by omega, rfl, by rw [WE.out, WD.out, World.drewN_drewN, World.drewN_drewN, Nat.add_assoc]⟩
    · have i1 : ¬ (i : Int) < M := by omega
      go_wp2_with fail
      go_ret
      exact ⟨rfl, below_drewN B2.out d⟩

end Go.Proofs.Yteciaffioiiceaa
