/-
  Numbers that may not be make none; marks out of their bounds, or not above, mark nothing: the law's walk, joined.
-/
import Derived.Test.YtonjpdidbgicgaaL2
namespace Go.Proofs.Ytonjpdidbgicgaa
open Go.RowKit

theorem take_sum (l : List Int) (k : Nat) (hk : k < l.length) : (l.take (k + 1)).sum = (l.take k).sum + l.getD k 0 := by
  rw [List.take_succ_eq_append_getElem hk, List.sum_append]
  simp [List.getD, hk]

theorem may_ways {n me p : Int} (h : mayB n me p = false) (p0 : 0 ≤ p) :
    n < 1 ∨ (1 ≤ n ∧ 7 < n) ∨ (1 ≤ n ∧ n ≤ 7 ∧ me < 1) ∨ (1 ≤ n ∧ n ≤ 7 ∧ 1 ≤ me ∧ n < me) ∨ (1 ≤ n ∧ n ≤ 7 ∧ 1 ≤ me ∧ me ≤ n ∧ p < 1) ∨ (1 ≤ n ∧ n ≤ 7 ∧ 1 ≤ me ∧ me ≤ n ∧ 1 ≤ p ∧ 1000000 < p) := by
  simp only [mayB, Bool.and_eq_false_iff, decide_eq_false_iff_not] at h
  omega

set_option maxRecDepth 100000 in
set_option maxHeartbeats 8000000 in
theorem wrong_law (n me p o m : Int) (w : World) (p0 : 0 ≤ p) (hm : -9223372036854775808 ≤ m ∧ m ≤ 9223372036854775807) :
    Calls Try.prog 5 #[.int .i64 n, .int .i64 me, .int .u64 p, .int .i64 o, .int .i64 m] w fun e w' => e = .returned (.bool true) ∧ Below w.heap.size w w' := by
  have HM := hide hm
  clear hm
  go_enter Try.func5, Try.ntmps5
  go_wp2_with fail
  refine (examples_any _).mono ?_
  rintro e w1 ⟨rfl, hb1⟩
  go_wp2_with fail
  refine (new_either n me p w _ hb1 p0).mono ?_
  rintro e w2 ⟨q, ev, rfl, hev, hb2⟩
  have EV := hide hev
  clear hb1 hev
  go_wp2_with fail
  refine (own_new 5 1 9 w _ (by decide) hb2).mono ?_
  rintro e w3 ⟨b, rfl, h3⟩
  clear hb2
  go_upto_region 8 with fail
  go_cut [16] (fun v wx => v = .bool (mayM o m) ∧ wx = w3)
  case first =>
    by_cases q1 : 1 ≤ o
    · by_cases q2 : o ≤ 5
      · by_cases q3 : 1 ≤ m
        · by_cases q4 : m < 16777216
          · have e : mayM o m = true := by simp [mayM, q1, q2, q3, q4]
            have E := hide e
            clear e
            go_wp2_with fail
            go_meet
            exact ⟨by rw [E.out], rfl⟩
          · have e : mayM o m = false := by simp [mayM, q4]
            have E := hide e
            clear e
            go_wp2_with fail
            go_meet
            exact ⟨by rw [E.out], rfl⟩
        · have e : mayM o m = false := by simp [mayM, q3]
          have E := hide e
          clear e
          go_wp2_with fail
          go_meet
          exact ⟨by rw [E.out], rfl⟩
      · have e : mayM o m = false := by simp [mayM, q2]
        have E := hide e
        clear e
        go_wp2_with fail
        go_meet
        exact ⟨by rw [E.out], rfl⟩
    · have e : mayM o m = false := by simp [mayM, q1]
      have E := hide e
      clear e
      go_wp2_with fail
      go_meet
      exact ⟨by rw [E.out], rfl⟩
  case rest =>
    obtain ⟨rfl, rfl⟩ := hcut
    go_wp2_with fail
    refine (own_mark w _ b _ o m (mayM o m) h3 (wrong_first o m)).mono ?_
    rintro e w4 ⟨rfl, h4⟩
    clear h3
    go_wp2_with fail
    refine (own_mark w _ b _ o m false h4 (wrong_second o m)).mono ?_
    rintro e w5 ⟨rfl, h5⟩
    clear h4
    go_wp2_with fail
    refine (own_marks w _ b _ h5).mono ?_
    rintro e w6 ⟨g, cap, rfl, hg, hm6, hb6, h6⟩
    have en : (markS (markS (BSt.init 5 1 9) o m) o m).n.toNat = 5 := wrong_n o m
    rw [en] at hm6 ⊢
    have M6 : w6.ownsRow w5.heap.size 3 1 (.slice (some ⟨g, 0, none⟩) 5 cap) 5 (ints (wrongSt o m).marks) := hm6
    have B6 := h6.bel
    clear hm6 en hb6 h5 h6
    have hl5 : (wrongSt o m).marks.length = 5 := by simp [BSt.marks, wrong_n]
    obtain ⟨L, hL⟩ : ∃ L : List Int, L = (wrongSt o m).marks := ⟨_, rfl⟩
    have hs := wrong_sum o m
    have ha := wrong_abs o m HM.out
    rw [← hL] at M6 hl5 hs ha
    have LL := hide hL
    have HS := hide hs
    have HA := hide ha
    have HL := hide hl5
    have MM := hide M6
    clear hL hs ha hl5 M6
    go_wp2_with fail
    go_loopg [20, 21] 6 (fun mm s i wr => ∃ k : Nat, i = .int .i64 k ∧ k ≤ 5 ∧ mm = 6 - k ∧ s = .int .i64 (L.take k).sum ∧ wr = w6)
    case atStart => exact ⟨0, rfl, by omega, rfl, rfl, rfl⟩
    case round =>
      obtain ⟨k, rfl, hk, rfl, rfl, rfl⟩ := hrel
      by_cases hlt : k < 5
      · have c1 : wr.cell? ⟨g, k, none⟩ = some (.int .i64 (L.getD k 0)) := by
          rw [MM.out.cellAt k (by omega)]
          have hl : k < L.length := by rw [HL.out]; exact hlt
          simp [ints, List.getD, hl]
        have hb1 := HA.out k (by omega)
        have hb2 := HA.out (k + 1) (by omega)
        have hts := take_sum L k (by rw [HL.out]; exact hlt)
        obtain ⟨X, hX⟩ : ∃ X : Int, X = L.getD k 0 := ⟨_, rfl⟩
        obtain ⟨Y, hY⟩ : ∃ Y : Int, Y = (L.take k).sum := ⟨_, rfl⟩
        obtain ⟨Z, hZ⟩ : ∃ Z : Int, Z = (L.take (k + 1)).sum := ⟨_, rfl⟩
        rw [← hX] at c1 hts
        rw [← hY] at hts hb1 ⊢
        rw [← hZ] at hts hb2
        have z1 : -9223372036854775808 ≤ Y + X := by omega
        have z2 : Y + X ≤ 9223372036854775807 := by omega
        have HZ := hide hZ
        have HT := hide hts
        clear hX hY hZ hts hb1 hb2
        go_wp2_with fail
        go_roundg (6 - (k + 1))
        case measure => omega
        case rel => exact ⟨k + 1, by go_num, by omega, rfl, by rw [← HZ.out, HT.out], rfl⟩
      · have k5 : (5 : Int) ≤ k := by omega
        have hk5 : k = 5 := by omega
        have e5 : (L.take k).sum = if mayM o m = true then m else 0 := by
          rw [← HS.out, List.take_of_length_le (by rw [HL.out]; omega)]
        obtain ⟨Y, hY⟩ : ∃ Y : Int, Y = (L.take k).sum := ⟨_, rfl⟩
        rw [← hY] at e5 ⊢
        have bb := B6
        cases hM : mayM o m with
        | true =>
          rw [hM] at e5
          simp only [if_true] at e5
          subst e5
          clear hY hk5 hlt hk
          rcases EV.out with ⟨hw, rfl⟩ | ⟨hw, rfl⟩
          · simp only [mayB, Bool.and_eq_true, decide_eq_true_eq] at hw
            obtain ⟨⟨⟨⟨⟨x1, x2⟩, x3⟩, x4⟩, x5⟩, x6⟩ := hw
            go_wp2_with fail
            go_ret
            exact ⟨rfl, bb⟩
          · rcases may_ways hw p0 with x1 | ⟨x1, x2⟩ | ⟨x1, x2, x3⟩ | ⟨x1, x2, x3, x4⟩ | ⟨x1, x2, x3, x4, x5⟩ | ⟨x1, x2, x3, x4, x5, x6⟩
            all_goals
              clear hw
              go_wp2_with fail
              go_ret
              first
                | exact ⟨rfl, bb⟩
                | exact ⟨by simp; omega, bb⟩
        | false =>
          rw [hM] at e5
          simp only [Bool.false_eq_true, if_false] at e5
          subst e5
          clear hY hk5 hlt hk
          rcases EV.out with ⟨hw, rfl⟩ | ⟨hw, rfl⟩
          · simp only [mayB, Bool.and_eq_true, decide_eq_true_eq] at hw
            obtain ⟨⟨⟨⟨⟨x1, x2⟩, x3⟩, x4⟩, x5⟩, x6⟩ := hw
            go_wp2_with fail
            go_ret
            exact ⟨rfl, bb⟩
          · rcases may_ways hw p0 with x1 | ⟨x1, x2⟩ | ⟨x1, x2, x3⟩ | ⟨x1, x2, x3, x4⟩ | ⟨x1, x2, x3, x4, x5⟩ | ⟨x1, x2, x3, x4, x5, x6⟩
            all_goals
              clear hw
              go_wp2_with fail
              go_ret
              first
                | exact ⟨rfl, bb⟩
                | exact ⟨by simp; omega, bb⟩

end Go.Proofs.Ytonjpdidbgicgaa
