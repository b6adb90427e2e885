/-
  Chapter 18: WaitStaggers, walked.
-/
import Derived.Test.YtflalllbplcgbaaL6
import Derived.Shelf.SlSortCmp.QuietGrown
namespace Go.Proofs.Ytflalllbplcgbaa
open Go.RowKit Go.Sort Go.Maps Go.Shelf

attribute [local irreducible] Go.wpQuiet
attribute [local go_sem ↓] Go.wp_at_zero Go.wp_at_succ

theorem delay_at (many o i t : Nat) (k d : Int) (h7 : many ≤ 7) (o1 : 1 ≤ o) (o2 : o ≤ many) (i1 : 1 ≤ i) (i2 : i ≤ many) (t6 : t ≤ 6) (k1 : 1 ≤ k) (k2 : k ≤ 1000) (hd : 0 ≤ d) (P r : Int) (hP : P = stemI many o i t k) (hr : r = d % k) (W : World) :
    Calls Try.prog 15 #[.int .i64 many, .int .i64 i, .int .i64 o, .int .i64 t, .int .u64 k, .int .u64 d] W fun e w' => e = .returned (.int .u64 (P + r)) ∧ Gr W w' := by
  have h := delay_any many i o t k d W hd
  rw [delay_rk h7 o1 o2 i1 i2 t6 k1 k2, ← hP, ← hr] at h
  exact h
theorem delay_next (many o i t : Nat) (k d : Int) (h7 : many ≤ 7) (o1 : 1 ≤ o) (o2 : o ≤ many) (i1 : 1 ≤ i) (i2 : i ≤ many) (t6 : t ≤ 5) (k1 : 1 ≤ k) (k2 : k ≤ 1000) (hd : 0 ≤ d) (P r : Int) (hP : P = stemI many o i t k) (hr : r = d % k) (W : World) :
    Calls Try.prog 15 #[.int .i64 many, .int .i64 i, .int .i64 o, .int .i64 ((t : Int) + 1), .int .u64 k, .int .u64 d] W fun e w' => e = .returned (.int .u64 (2 * P + r)) ∧ Gr W w' := by
  have h := delay_at many o i (t + 1) k d h7 o1 o2 i1 i2 (by omega) k1 k2 hd (2 * P) r (by rw [stem_step, hP]) hr W
  rw [show ((t + 1 : Nat) : Int) = (t : Int) + 1 from by omega] at h
  exact h

theorem grown_gr {f : FuncId} {args : Array Value} {w : World} {n : Nat} {os : Array Obj} {v : Value} (h : Calls Try.prog f args (grow (w.drewN n) os) fun e w' => e = .returned v ∧ Gr (grow (w.drewN n) os) w') :
    Calls Try.prog f args (grow (w.drewN n) os) fun e w'' => e = .returned v ∧ ∃ p : GrownBy, w'' = grow (w.drewN p.n) p.os := Calls.grown_of h

theorem below_gr {w a c : World} (h : Below w.heap.size w a) (g : Gr a c) : Below w.heap.size w c := h.trans (g.below.mono h.size)

set_option maxRecDepth 100000 in
set_option maxHeartbeats 8000000 in
theorem staggers_law (n owner tries base a b : Int) (w : World) (hn : 0 ≤ n ∧ n ≤ 255) (hw : 0 ≤ owner ∧ owner ≤ 255) (ht : 0 ≤ tries ∧ tries ≤ 255) (hbs : 0 ≤ base ∧ base ≤ 65535) (ha : 0 ≤ a) (hb : 0 ≤ b) :
    Calls Try.prog 4 #[.int .u8 n, .int .u8 owner, .int .u8 tries, .int .u16 base, .int .u64 a, .int .u64 b] w fun e w' => e = .returned (.bool true) ∧ Below w.heap.size w w' := by
  obtain ⟨n0, n1⟩ := hn
  obtain ⟨v0, v1⟩ := hw
  obtain ⟨s0, s1⟩ := ht
  obtain ⟨u0, u1⟩ := hbs
  obtain ⟨many, hmany⟩ : ∃ many : Nat, 3 + 2 * (n % 3) = (many : Int) := ⟨(3 + 2 * (n % 3)).toNat, by omega⟩
  have h1 : 3 ≤ many := by omega
  have h7 : many ≤ 7 := by omega
  have hlz : (0 : Int) < many := by omega
  have hm0 := Int.emod_nonneg owner (show (many : Int) ≠ 0 by omega)
  have hm1 := Int.emod_lt_of_pos owner hlz
  obtain ⟨o, ho⟩ : ∃ o : Nat, 1 + owner % (many : Int) = (o : Int) := ⟨(1 + owner % (many : Int)).toNat, by omega⟩
  have o1 : 1 ≤ o := by omega
  have o2 : o ≤ many := by omega
  obtain ⟨t, hte⟩ : ∃ t : Nat, tries % 6 = (t : Int) := ⟨(tries % 6).toNat, by omega⟩
  have t5 : t ≤ 5 := by omega
  obtain ⟨k, hk⟩ : ∃ k : Int, 1 + base % 1000 = k := ⟨_, rfl⟩
  have k1 : 1 ≤ k := by omega
  have k2 : k ≤ 1000 := by omega
  have hwb : IntKind.u64.wrap (base % 1000) = base % 1000 := IntWalk.u64_in _ (by omega)
  have hm7 : (many : Int) ≤ 7 := by omega
  go_enter Try.func4, Try.ntmps4
  go_wp2_with fail
  refine (examples_any w).mono ?_
  rintro e w1 ⟨rfl, hb1⟩
  have B1 := hide hb1
  clear hb1
  go_wp2_with fail
  clear hmany ho hte hk hwb n0 n1 v0 v1 s0 s1 u0 u1 hm0 hm1
  obtain ⟨ra, hra⟩ : ∃ ra, ra = a % k := ⟨_, rfl⟩
  obtain ⟨rb, hrb⟩ : ∃ rb, rb = b % k := ⟨_, rfl⟩
  have ra0 : 0 ≤ ra := by rw [hra]; exact Int.emod_nonneg _ (by omega)
  have ra1 : ra < k := by rw [hra]; exact Int.emod_lt_of_pos _ (by omega)
  have rb0 : 0 ≤ rb := by rw [hrb]; exact Int.emod_nonneg _ (by omega)
  have rb1 : rb < k := by rw [hrb]; exact Int.emod_lt_of_pos _ (by omega)
  have HRA := hide hra
  have HRB := hide hrb
  have hta : a.tmod k = ra := by rw [hra]; exact Int.tmod_eq_emod_of_nonneg ha
  have htb : b.tmod k = rb := by rw [hrb]; exact Int.tmod_eq_emod_of_nonneg hb
  have hea : a % k = ra := hra.symm
  have heb : b % k = rb := hrb.symm
  have kz : ¬ k = 0 := by omega
  clear hra hrb
  have FA := hide (And.intro hta hea)
  have FB := hide (And.intro htb heb)
  clear hta htb hea heb
  go_loopg [18, 19] (many + 1) (fun q u18 u19 wr => ∃ i : Nat, u18 = .int .i64 (i : Int) ∧ 1 ≤ i ∧ i ≤ many + 1 ∧ q = many + 2 - i ∧ Hid (Below w.heap.size w wr))
  case atStart => exact ⟨1, rfl, by omega, by omega, by omega, B1.out⟩
  case round =>
    obtain ⟨i, rfl, hi1, hi, rfl, BL⟩ := hrel
    by_cases hlt : i ≤ many
    · have i1 : (i : Int) ≤ many := by omega
      have hPb := stem_bd many o i t k (by omega) h7 (by omega) k1 k2
      obtain ⟨P, hP⟩ : ∃ P, P = stemI many o i t k := ⟨_, rfl⟩
      rw [← hP] at hPb
      obtain ⟨P0, P1⟩ := hPb
      obtain ⟨p, hp⟩ : ∃ p, p = rk many o i := ⟨_, rfl⟩
      have pm : p < many := by rw [hp]; exact rk_lt (by omega)
      have HP := hide hP
      have HPR := hide hp
      have D1 := hide (delay_at many o i t k a h7 o1 o2 hi1 hlt (by omega) k1 k2 ha P ra hP HRA.out)
      have D3 := hide (delay_next many o i t k a h7 o1 o2 hi1 hlt t5 k1 k2 ha P ra hP HRA.out)
      have R1 := hide (rank_at many o i h7 o1 o2 hi1 hlt p hp)
      clear hP hp
      go_wp2_with fail
      go_loopg [19] (many + 1) (fun q u19 wr => ∃ j : Nat, u19 = .int .i64 (j : Int) ∧ 1 ≤ j ∧ j ≤ many + 1 ∧ q = many + 2 - j ∧ Hid (Below w.heap.size w wr))
      case atStart => exact ⟨1, rfl, by omega, by omega, by omega, BL.out⟩
      case round =>
        obtain ⟨j, rfl, hj1, hj, rfl, BJ⟩ := hrel
        by_cases hlj : j ≤ many
        · have j1 : (j : Int) ≤ many := by omega
          have hQb := stem_bd many o j t k (by omega) h7 (by omega) k1 k2
          obtain ⟨Q, hQ⟩ : ∃ Q, Q = stemI many o j t k := ⟨_, rfl⟩
          rw [← hQ] at hQb
          obtain ⟨Q0, Q1⟩ := hQb
          obtain ⟨q, hq⟩ : ∃ q, q = rk many o j := ⟨_, rfl⟩
          have D2 := hide (delay_at many o j t k b h7 o1 o2 hj1 hlj (by omega) k1 k2 hb Q rb hQ HRB.out)
          have R2 := hide (rank_at many o j h7 o1 o2 hj1 hlj q hq)
          have hne : ¬ i = j → ¬ p = q := by
            intro hij e
            rw [HPR.out, hq] at e
            rcases Nat.lt_or_ge i j with h | h
            · exact rk_ne ⟨many, by omega⟩ ⟨o, by omega⟩ ⟨j, by omega⟩ ⟨i, by omega⟩ o1 o2 hj1 hlj hi1 h e.symm
            · exact rk_ne ⟨many, by omega⟩ ⟨o, by omega⟩ ⟨i, by omega⟩ ⟨j, by omega⟩ o1 o2 hi1 hlt hj1 (show j < i by omega) e
          have hself : i = j → p = q := fun e => by rw [HPR.out, hq, e]
          have NEQ := hide (And.intro hne hself)
          clear hne hself
          have hstep : p < q → P + k ≤ Q := by
            intro h
            rw [HP.out, hQ]
            exact stem_lt many o i j t k (by omega) h7 (by omega) k1 (by rw [← HPR.out, ← hq]; exact h)
          have HST := hide hstep
          clear hQ hq hstep
          go_wp2_with fail
          refine (D1.out _).mono ?_
          rintro e w2 ⟨rfl, g2⟩
          have B2 := hide (BJ.out.trans (g2.below.mono BJ.out.size))
          clear g2
          go_wp2_with fail
          refine (D2.out _).mono ?_
          rintro e w3 ⟨rfl, g3⟩
          have B3 := hide (B2.out.trans (g3.below.mono B2.out.size))
          clear g3
          go_wp2_with fail
          refine (R1.out _).mono ?_
          rintro e w4 ⟨rfl, g4⟩
          have B4 := hide (B3.out.trans (g4.below.mono B3.out.size))
          clear g4
          go_wp2_with fail
          refine (R2.out _).mono ?_
          rintro e w5 ⟨rfl, g5⟩
          have B5 := hide (B4.out.trans (g5.below.mono B4.out.size))
          clear g5
          go_wp2_with fail
          obtain ⟨ta, ea⟩ := FA.out
          obtain ⟨tb, eb⟩ := FB.out
          have w117 : IntKind.i64.wrap ((t : Int) + 1) = (t : Int) + 1 := IntWalk.i64_in _ (by omega)
          have hle : decide (2 * P + ra ≤ P) = false := by rw [decide_eq_false_iff_not]; omega
          have e1 : IntKind.u64.wrap (P + ra - ra) = P := by rw [IntWalk.u64_in _ (by omega)]; omega
          have e2 : IntKind.u64.wrap P = P := IntWalk.u64_in _ (by omega)
          have hmix := mixed
          have hcase : (i = j ∧ p = q) ∨ (¬ i = j ∧ p < q) ∨ (¬ i = j ∧ q < p) := by
            by_cases h : i = j
            · exact .inl ⟨h, NEQ.out.2 h⟩
            · have := NEQ.out.1 h
              omega
          have hmp1 : decide (many ≤ p) = false := by rw [decide_eq_false_iff_not]; omega
          have hmp2 : decide ((many : Int) ≤ (p : Int)) = false := by rw [decide_eq_false_iff_not]; omega
          have hmp3 : decide ((p : Int) < 0) = false := by rw [decide_eq_false_iff_not]; omega
          have hmp4 : ¬ (many : Int) ≤ (p : Int) := by omega
          rcases hcase with ⟨hij, hpq⟩ | ⟨hij, hpq⟩ | ⟨hij, hpq⟩
          · subst hij
            subst hpq
            have l1 : ¬ (p : Int) < p := by omega
            have l3 : decide (p < p) = false := by simp
            go_quiet_grown ((go_at_call 15; (first | (with_reducible exact grown_gr (D3.out _)) | (with_reducible exact grown_gr (D1.out _)))))
            have b6 : Below w.heap.size w (grow (w5.drewN nq) osq) := B5.out.trans (Below.mono (Gr.below ⟨nq, osq, rfl⟩) B5.out.size)
            all_goals
              go_wp2_with fail
              go_roundg (many + 2 - (i + 1))
              case measure => omega
              case rel => exact ⟨i + 1, by go_num, by omega, by omega, rfl, b6⟩
          · have n1 : (i == j) = false := beq_eq_false_iff_ne.2 hij
            have n2 : (p == q) = false := beq_eq_false_iff_ne.2 (by omega)
            have n3 : ((i : Int) == (j : Int)) = false := beq_eq_false_iff_ne.2 (by omega)
            have n4 : ((p : Int) == (q : Int)) = false := beq_eq_false_iff_ne.2 (by omega)
            have l2 := HST.out hpq
            have l1 : (p : Int) < q := by omega
            have l3 : decide (p < q) = true := by simpa using hpq
            have e3 : IntKind.u64.wrap (P + k) = P + k := IntWalk.u64_in _ (by omega)
            have e4 : IntKind.u64.wrap (Q + rb - rb) = Q := by rw [IntWalk.u64_in _ (by omega)]; omega
            have e5 : IntKind.u64.wrap Q = Q := IntWalk.u64_in _ (by omega)
            have g1 : decide (Q < P + k) = false := by rw [decide_eq_false_iff_not]; omega
            go_quiet_grown ((go_at_call 15; (first | (with_reducible exact grown_gr (D3.out _)) | (with_reducible exact grown_gr (D1.out _)))))
            have b6 : Below w.heap.size w (grow (w5.drewN nq) osq) := B5.out.trans (Below.mono (Gr.below ⟨nq, osq, rfl⟩) B5.out.size)
            all_goals
              go_wp2_with fail
              go_roundg (many + 2 - (j + 1))
              case measure => omega
              case rel => exact ⟨j + 1, by go_num, by omega, by omega, rfl, b6⟩
          · have n1 : (i == j) = false := beq_eq_false_iff_ne.2 hij
            have n2 : (p == q) = false := beq_eq_false_iff_ne.2 (by omega)
            have n3 : ((i : Int) == (j : Int)) = false := beq_eq_false_iff_ne.2 (by omega)
            have n4 : ((p : Int) == (q : Int)) = false := beq_eq_false_iff_ne.2 (by omega)
            have l1 : ¬ (p : Int) < q := by omega
            have l3 : decide (p < q) = false := by simp; omega
            go_quiet_grown ((go_at_call 15; (first | (with_reducible exact grown_gr (D3.out _)) | (with_reducible exact grown_gr (D1.out _)))))
            have b6 : Below w.heap.size w (grow (w5.drewN nq) osq) := B5.out.trans (Below.mono (Gr.below ⟨nq, osq, rfl⟩) B5.out.size)
            all_goals
              go_wp2_with fail
              go_roundg (many + 2 - (j + 1))
              case measure => omega
              case rel => exact ⟨j + 1, by go_num, by omega, by omega, rfl, b6⟩
        · have j1 : ¬ (j : Int) ≤ many := by omega
          go_wp2_with fail
          go_roundg (many + 2 - (i + 1))
          case measure => omega
          case rel => exact ⟨i + 1, by go_num, by omega, by omega, rfl, BJ.out⟩
    · have i1 : ¬ (i : Int) ≤ many := by omega
      have HZ := hide (rank_zero many o o (rankI_own h7 o1 o2))
      go_wp2_with fail
      refine (HZ.out _).mono ?_
      rintro e w3 ⟨rfl, k3⟩
      have B3 := hide (BL.out.trans (k3.below.mono BL.out.size))
      clear k3
      go_wp2_with fail
      go_ret
      exact ⟨rfl, B3.out⟩

end Go.Proofs.Ytflalllbplcgbaa
