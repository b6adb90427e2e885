/-
  Chapter 19: Mark, Heard and Alive of the program and of the document's answer, walked through their text.
-/
import Derived.Test.YtonjpdidbgicgaaW1
namespace Go.Proofs.Ytonjpdidbgicgaa
open Go.RowKit

set_option maxHeartbeats 400000 in
theorem mark_any (b : Nat) (s : BSt) (owner n : Int) (w : World) (h : IsBeat w b s) (hn : s.n ≤ 7) :
    Calls Try.prog 13 #[.pointer (some ⟨b, 0, none⟩), .int .i64 owner, .int .i64 n] w fun e w' => e = .returned (.bool (markB s owner n)) ∧ IsBeat w' b (markS s owner n) ∧ w.grownBy w' (some b) ∧ w'.heap.size = w.heap.size := by
  cases hB : markB s owner n with
  | false =>
    have hS : markS s owner n = s := by simp [markS, hB]
    rw [hS]
    have H := hide h
    clear hS
    cases hin : inB s.n owner with
    | false =>
      clear hB h
      have I := hide hin
      clear hin
      go_enter Try.func13, Try.ntmps13
      go_wp2_with (go_at_call 23; refine (in_any b s _ _ H.out).mono ?_; rw [I.out]; rintro e w' ⟨rfl, rfl⟩)
      go_ret
      exact ⟨rfl, H.out, .refl _ _, rfl⟩
    | true =>
      have hw : 1 ≤ owner ∧ owner ≤ s.n := by simpa [inB] using hin
      have hk : owner.toNat < 8 := by omega
      have c1 := h.mk owner.toNat hk
      simp only [markB, hin, Bool.true_and, Bool.and_eq_false_iff, decide_eq_false_iff_not] at hB
      have B := hide hB
      clear hB h
      have I := hide hin
      clear hin
      go_enter Try.func13, Try.ntmps13
      go_wp2_with (go_at_call 23; refine (in_any b s _ _ H.out).mono ?_; rw [I.out]; rintro e w' ⟨rfl, rfl⟩)
      all_goals first | (exfalso; have := B.out; omega) | (go_ret; exact ⟨rfl, H.out, .refl _ _, rfl⟩)
  | true =>
    have hS : markS s owner n = { s with mrk := upd s.mrk owner.toNat n } := by simp [markS, hB]
    rw [hS]
    simp only [markB, Bool.and_eq_true, decide_eq_true_eq] at hB
    obtain ⟨⟨⟨hin, h1⟩, h2⟩, h3⟩ := hB
    have hw : 1 ≤ owner ∧ owner ≤ s.n := by simpa [inB] using hin
    have hk : owner.toNat < 8 := by omega
    have c1 := h.mk owner.toNat hk
    have f1 := h.free (19 + owner.toNat)
    have R := fun v => h.marked owner.toNat hk v
    have R' := hide R
    have H := hide h
    clear h hS R
    have I := hide hin
    clear hin
    go_enter Try.func13, Try.ntmps13
    go_wp2_with (go_at_call 23; refine (in_any b s _ _ H.out).mono ?_; rw [I.out]; rintro e w' ⟨rfl, rfl⟩)
    go_ret
    exact ⟨rfl, R'.out _, only_set (.refl _ _) _ _, by simp only [size_setCell]⟩

set_option maxHeartbeats 400000 in
theorem rmark_any (b : Nat) (s : BSt) (owner n : Int) (w : World) (h : IsRef w b s) (hn : s.n ≤ 7) :
    Calls Try.prog 14 #[.pointer (some ⟨b, 0, none⟩), .int .i64 owner, .int .i64 n] w fun e w' => e = .returned (.bool (markB s owner n)) ∧ IsRef w' b (markS s owner n) ∧ w.grownBy w' (some b) ∧ w'.heap.size = w.heap.size := by
  have c0 := h.c0
  cases hB : markB s owner n with
  | false =>
    have hS : markS s owner n = s := by simp [markS, hB]
    rw [hS]
    have H := hide h
    clear hS
    by_cases hin : 1 ≤ owner ∧ owner ≤ s.n
    · have hi : inB s.n owner = true := by simp [inB, hin]
      have hk : owner.toNat < 8 := by omega
      have c1 := h.mk owner.toNat hk
      simp only [markB, hi, Bool.true_and, Bool.and_eq_false_iff, decide_eq_false_iff_not] at hB
      have B := hide hB
      clear hB h hi
      go_enter Try.func14, Try.ntmps14
      go_wp2
      all_goals first | (exfalso; have := B.out; omega) | (go_ret; exact ⟨rfl, H.out, .refl _ _, rfl⟩)
    · clear hB h
      have B := hide hin
      clear hin
      go_enter Try.func14, Try.ntmps14
      by_cases h1 : 1 ≤ owner
      · have h2 : s.n < owner := by have := B.out; omega
        go_wp2
        go_ret
        exact ⟨rfl, H.out, .refl _ _, rfl⟩
      · go_wp2
        go_ret
        exact ⟨rfl, H.out, .refl _ _, rfl⟩
  | true =>
    have hS : markS s owner n = { s with mrk := upd s.mrk owner.toNat n } := by simp [markS, hB]
    rw [hS]
    simp only [markB, Bool.and_eq_true, decide_eq_true_eq] at hB
    obtain ⟨⟨⟨hin, h1⟩, h2⟩, h3⟩ := hB
    have hw : 1 ≤ owner ∧ owner ≤ s.n := by simpa [inB] using hin
    have hk : owner.toNat < 8 := by omega
    have c1 := h.mk owner.toNat hk
    have f1 := h.free (19 + owner.toNat)
    have R := fun v => h.marked owner.toNat hk v
    have R' := hide R
    have H := hide h
    clear h hS R hin
    go_enter Try.func14, Try.ntmps14
    go_wp2
    go_ret
    exact ⟨rfl, R'.out _, only_set (.refl _ _) _ _, by simp only [size_setCell]⟩

set_option maxHeartbeats 400000 in
theorem rheard_any (b : Nat) (s : BSt) (who now : Int) (w : World) (h : IsRef w b s) (hn : s.n ≤ 7) :
    Calls Try.prog 12 #[.pointer (some ⟨b, 0, none⟩), .int .i64 who, .int .u64 now] w fun e w' => e = .returned (.bool (heardB s who)) ∧ IsRef w' b (heardS s who now) ∧ w.grownBy w' (some b) ∧ w'.heap.size = w.heap.size := by
  have c0 := h.c0
  have c1 := h.c1
  cases hB : heardB s who with
  | false =>
    have hS : heardS s who now = s := by simp [heardS, hB]
    rw [hS]
    have H := hide h
    clear h hS
    by_cases h1 : 1 ≤ who
    · by_cases h2 : who ≤ s.n
      · have hm : who = s.me := by simpa [heardB, inB, h1, h2] using hB
        clear hB
        have hm' : (who == s.me) = true := by simp [hm]
        clear hm
        go_enter Try.func12, Try.ntmps12
        go_wp2
        go_ret
        exact ⟨rfl, H.out, .refl _ _, rfl⟩
      · clear hB
        go_enter Try.func12, Try.ntmps12
        go_wp2
        go_ret
        exact ⟨rfl, H.out, .refl _ _, rfl⟩
    · clear hB
      go_enter Try.func12, Try.ntmps12
      go_wp2
      go_ret
      exact ⟨rfl, H.out, .refl _ _, rfl⟩
  | true =>
    have hS : heardS s who now = { s with was := upd s.was who.toNat true, ht := upd s.ht who.toNat (max (s.ht who.toNat) now) } := by simp [heardS, hB]
    rw [hS]
    simp only [heardB, Bool.and_eq_true, Bool.not_eq_true', beq_eq_false_iff_ne, ne_eq] at hB
    obtain ⟨hin, hm⟩ := hB
    have hw : 1 ≤ who ∧ who ≤ s.n := by simpa [inB] using hin
    have hk : who.toNat < 8 := by omega
    have b1 : 0 ≤ who := by omega
    have b2 : who < 8 := by omega
    have g1 := h.was who.toNat hk
    have g2 := h.ht who.toNat hk
    have f1 := h.free (3 + who.toNat)
    have f2 := h.free (11 + who.toNat)
    have R := fun v => h.heard who.toNat hk v
    have R' := hide R
    clear h hS R hin
    have hm' : (who == s.me) = false := by simp [hm]
    clear hm
    by_cases hlt : s.ht who.toNat < now
    · have hx : max (s.ht who.toNat) now = now := by omega
      rw [hx]
      clear hx
      go_enter Try.func12, Try.ntmps12
      go_wp2
      refine wp_region_tail 13 mixed (by kernel_rfl) ?_
      simp only [List.take_succ_cons, List.take_zero, List.drop_succ_cons, List.drop_zero]
      repeat still_step
      refine wpStill_nil ?_
      go_wp2
      go_ret
      exact ⟨rfl, World.rowIs.drew (R'.out _), only_drew (only_set (only_set (.refl _ _) _ _) _ _), by simp only [size_drew, size_setCell]⟩
    · have hx : max (s.ht who.toNat) now = s.ht who.toNat := by omega
      rw [hx]
      clear hx
      go_enter Try.func12, Try.ntmps12
      go_wp2
      refine wp_region_tail 13 mixed (by kernel_rfl) ?_
      simp only [List.take_succ_cons, List.take_zero, List.drop_succ_cons, List.drop_zero]
      repeat still_step
      refine wpStill_nil ?_
      go_wp2
      go_ret
      exact ⟨rfl, World.rowIs.drew (R'.out _), only_drew (only_set (only_set (.refl _ _) _ _) _ _), by simp only [size_drew, size_setCell]⟩


set_option maxHeartbeats 800000 in
theorem alive_any (b : Nat) (s : BSt) (who now : Int) (w : World) (h : IsBeat w b s) (ho : s.Ok) (h2 : 0 ≤ now) (h3 : now ≤ 18446744073709551615) :
    Calls Try.prog 20 #[.pointer (some ⟨b, 0, none⟩), .int .i64 who, .int .u64 now] w fun e w' => e = .returned (.bool (aliveB s who now)) ∧ ∃ n, w' = w.drewN n := by
  have c1 := h.c1
  have c2 := h.c2
  have hn := ho.n7
  have hp1 := ho.p1
  have u1 := ho.ht0 who.toNat
  have u2 := ho.ht1 who.toNat
  clear ho
  by_cases hm : who = s.me
  · have hB : aliveB s who now = true := by simp [aliveB, hm]
    rw [hB]
    have hm' : (who == s.me) = true := by simp [hm]
    clear hB hm
    go_enter Try.func20, Try.ntmps20
    go_wp2_with fail
    go_ret
    exact ⟨rfl, 0, rfl⟩
  · have hm' : (who == s.me) = false := by simp [hm]
    have H := hide h
    cases hin : inB s.n who with
    | false =>
      have hB : aliveB s who now = false := by simp [aliveB, hin, hm]
      rw [hB]
      clear hB hm h
      have I := hide hin
      clear hin
      go_enter Try.func20, Try.ntmps20
      go_wp2_with (go_at_call 23; refine (in_any b s _ _ H.out).mono ?_; rw [I.out]; rintro e w' ⟨rfl, rfl⟩)
      go_ret
      exact ⟨rfl, 0, rfl⟩
    | true =>
      have hw : 1 ≤ who ∧ who ≤ s.n := by simpa [inB] using hin
      have hk : who.toNat < 8 := by omega
      have g1 := h.was who.toNat hk
      have g2 := h.ht who.toNat hk
      have b1 : 0 ≤ who := by omega
      have b2 : who < 8 := by omega
      cases hx : s.was who.toNat with
      | false =>
        have hB : aliveB s who now = false := by simp [aliveB, hin, hm, hx]
        rw [hB]
        rw [hx] at g1
        have I := hide hin
        clear hB hm h hin hx
        go_enter Try.func20, Try.ntmps20
        go_wp2_with (go_at_call 23; refine (in_any b s _ _ H.out).mono ?_; rw [I.out]; rintro e w' ⟨rfl, rfl⟩)
        go_ret
        exact ⟨rfl, 0, rfl⟩
      | true =>
        rw [hx] at g1
        by_cases hlt : now < s.ht who.toNat
        · have hB : aliveB s who now = true := by
            have : max now (s.ht who.toNat) = s.ht who.toNat := by omega
            simp only [aliveB, hin, hm', hx, this, Bool.true_and, Bool.false_or, Bool.and_self]
            simp
            omega
          rw [hB]
          have I := hide hin
          have z0 : IntKind.u64.wrap 0 = 0 := by rfl
          have z1 : (0 : Int) < s.pat := by omega
          have z2 : decide (now < s.ht who.toNat) = true := by simp [hlt]
          clear hB hm h hin hx
          go_enter Try.func20, Try.ntmps20
          go_wp2_with (go_at_call 23; refine (in_any b s _ _ H.out).mono ?_; rw [I.out]; rintro e w' ⟨rfl, rfl⟩)
          go_quiet (fail)
          go_wp2
          all_goals
            go_ret
            exact ⟨rfl, _, rfl⟩
        · have hB : aliveB s who now = decide (now - s.ht who.toNat < s.pat) := by
            have : max now (s.ht who.toNat) = now := by omega
            simp [aliveB, hin, hm, hx, this]
          rw [hB]
          have I := hide hin
          have z0 : IntKind.u64.wrap (now - s.ht who.toNat) = now - s.ht who.toNat := IntWalk.u64_in _ (by omega)
          have z2 : decide (now < s.ht who.toNat) = false := by simp; omega
          have z3 : s.ht who.toNat ≤ now := by omega
          clear hB hm h hin hx
          go_enter Try.func20, Try.ntmps20
          go_wp2_with (go_at_call 23; refine (in_any b s _ _ H.out).mono ?_; rw [I.out]; rintro e w' ⟨rfl, rfl⟩)
          go_quiet (fail)
          go_wp2
          all_goals
            go_ret
            exact ⟨rfl, _, rfl⟩

set_option maxHeartbeats 800000 in
theorem ralive_any (b : Nat) (s : BSt) (who now : Int) (w : World) (h : IsRef w b s) (ho : s.Ok) (h2 : 0 ≤ now) (h3 : now ≤ 18446744073709551615) :
    Calls Try.prog 21 #[.pointer (some ⟨b, 0, none⟩), .int .i64 who, .int .u64 now] w fun e w' => e = .returned (.bool (aliveB s who now)) ∧ ∃ n, w' = w.drewN n := by
  have c1 := h.c1
  have c2 := h.c2
  have c0 := h.c0
  have hn := ho.n7
  have hp1 := ho.p1
  have u1 := ho.ht0 who.toNat
  have u2 := ho.ht1 who.toNat
  clear ho
  by_cases hm : who = s.me
  · have hB : aliveB s who now = true := by simp [aliveB, hm]
    rw [hB]
    have hm' : (who == s.me) = true := by simp [hm]
    clear hB hm
    go_enter Try.func21, Try.ntmps21
    go_wp2_with fail
    go_ret
    exact ⟨rfl, 0, rfl⟩
  · have hm' : (who == s.me) = false := by simp [hm]
    have H := hide h
    cases hin : inB s.n who with
    | false =>
      have hB : aliveB s who now = false := by simp [aliveB, hin, hm]
      rw [hB]
      clear hB hm h
      by_cases h1 : 1 ≤ who
      · have h2 : s.n < who := by simp [inB, h1] at hin; omega
        clear hin
        go_enter Try.func21, Try.ntmps21
        go_wp2_with fail
        go_ret
        exact ⟨rfl, 0, rfl⟩
      · clear hin
        go_enter Try.func21, Try.ntmps21
        go_wp2_with fail
        go_ret
        exact ⟨rfl, 0, rfl⟩
    | true =>
      have hw : 1 ≤ who ∧ who ≤ s.n := by simpa [inB] using hin
      have hk : who.toNat < 8 := by omega
      have g1 := h.was who.toNat hk
      have g2 := h.ht who.toNat hk
      have b1 : 0 ≤ who := by omega
      have b2 : who < 8 := by omega
      cases hx : s.was who.toNat with
      | false =>
        have hB : aliveB s who now = false := by simp [aliveB, hin, hm, hx]
        rw [hB]
        rw [hx] at g1
        have I := hide hin
        clear hB hm h hin hx
        go_enter Try.func21, Try.ntmps21
        go_wp2_with fail
        go_ret
        exact ⟨rfl, 0, rfl⟩
      | true =>
        rw [hx] at g1
        by_cases hlt : now < s.ht who.toNat
        · have hB : aliveB s who now = true := by
            have : max now (s.ht who.toNat) = s.ht who.toNat := by omega
            simp only [aliveB, hin, hm', hx, this, Bool.true_and, Bool.false_or, Bool.and_self]
            simp
            omega
          rw [hB]
          have I := hide hin
          have z0 : IntKind.u64.wrap 0 = 0 := by rfl
          have z1 : (0 : Int) < s.pat := by omega
          have z2 : decide (now < s.ht who.toNat) = true := by simp [hlt]
          clear hB hm h hin hx
          go_enter Try.func21, Try.ntmps21
          go_wp2_with fail
          go_quiet (fail)
          go_wp2
          all_goals
            go_ret
            exact ⟨rfl, _, rfl⟩
        · have hB : aliveB s who now = decide (now - s.ht who.toNat < s.pat) := by
            have : max now (s.ht who.toNat) = now := by omega
            simp [aliveB, hin, hm, hx, this]
          rw [hB]
          have I := hide hin
          have z0 : IntKind.u64.wrap (now - s.ht who.toNat) = now - s.ht who.toNat := IntWalk.u64_in _ (by omega)
          have z2 : decide (now < s.ht who.toNat) = false := by simp; omega
          have z3 : s.ht who.toNat ≤ now := by omega
          clear hB hm h hin hx
          go_enter Try.func21, Try.ntmps21
          go_wp2_with fail
          go_quiet (fail)
          go_wp2
          all_goals
            go_ret
            exact ⟨rfl, _, rfl⟩

end Go.Proofs.Ytonjpdidbgicgaa
