/-
  Chapter 19: what each small function of the program and of the document's answer does, walked through its text. No condition but that the struct lies in memory as numbers.
-/
import Derived.Test.YtonjpdidbgicgaaRows
import Derived.Test.YtonjpdidbgicgaaS
import Derived.WalkKit
import Derived.WalkSpells
import Derived.WalkLawsBesides
import Derived.StillTailTactics
import Derived.BigQuiet
import Derived.Lib.Hide
namespace Go.Proofs.Ytonjpdidbgicgaa
open Go.RowKit

theorem mixed : Try.prog.follows .mixedOrders = true := by kernel_rfl

set_option maxHeartbeats 400000 in
theorem in_any (b : Nat) (s : BSt) (who : Int) (w : World) (h : IsBeat w b s) :
    Calls Try.prog 23 #[.pointer (some ⟨b, 0, none⟩), .int .i64 who] w fun e w' => e = .returned (.bool (inB s.n who)) ∧ w = w' := by
  have h0 := h.c0
  by_cases h1 : 1 ≤ who
  · have hb : inB s.n who = decide (who ≤ s.n) := by simp [inB, h1]
    rw [hb]
    clear hb
    go_enter Try.func23, Try.ntmps23
    go_wp2
    go_ret
    exact ⟨by simp, rfl⟩
  · have hb : inB s.n who = false := by simp [inB, h1]
    rw [hb]
    clear hb
    go_enter Try.func23, Try.ntmps23
    go_wp2
    go_ret
    exact ⟨by simp, rfl⟩

theorem init_cell (n me p : Int) (i : Nat) (hi : i < 27) :
    (#[Value.int .i64 n, .int .i64 me, .int .u64 p, .bool false, .int .u64 0, .bool false, .int .u64 0, .bool false, .int .u64 0, .bool false, .int .u64 0, .bool false, .int .u64 0, .bool false, .int .u64 0, .bool false, .int .u64 0, .bool false, .int .u64 0, .int .i64 0, .int .i64 0, .int .i64 0, .int .i64 0, .int .i64 0, .int .i64 0, .int .i64 0, .int .i64 0] : Array Value)[i]? = some ((BSt.init n me p).cell i) := by
  match i, hi with
  | 0, _ => rfl
  | 1, _ => rfl
  | 2, _ => rfl
  | 3, _ => rfl
  | 4, _ => rfl
  | 5, _ => rfl
  | 6, _ => rfl
  | 7, _ => rfl
  | 8, _ => rfl
  | 9, _ => rfl
  | 10, _ => rfl
  | 11, _ => rfl
  | 12, _ => rfl
  | 13, _ => rfl
  | 14, _ => rfl
  | 15, _ => rfl
  | 16, _ => rfl
  | 17, _ => rfl
  | 18, _ => rfl
  | 19, _ => rfl
  | 20, _ => rfl
  | 21, _ => rfl
  | 22, _ => rfl
  | 23, _ => rfl
  | 24, _ => rfl
  | 25, _ => rfl
  | 26, _ => rfl
  | n + 27, h => exact absurd h (by omega)

theorem init_rcell (n me p : Int) (i : Nat) (hi : i < 27) :
    (#[Value.int .i64 n, .int .i64 me, .int .u64 p, .bool false, .bool false, .bool false, .bool false, .bool false, .bool false, .bool false, .bool false, .int .u64 0, .int .u64 0, .int .u64 0, .int .u64 0, .int .u64 0, .int .u64 0, .int .u64 0, .int .u64 0, .int .i64 0, .int .i64 0, .int .i64 0, .int .i64 0, .int .i64 0, .int .i64 0, .int .i64 0, .int .i64 0] : Array Value)[i]? = some ((BSt.init n me p).rcell i) := by
  match i, hi with
  | 0, _ => rfl
  | 1, _ => rfl
  | 2, _ => rfl
  | 3, _ => rfl
  | 4, _ => rfl
  | 5, _ => rfl
  | 6, _ => rfl
  | 7, _ => rfl
  | 8, _ => rfl
  | 9, _ => rfl
  | 10, _ => rfl
  | 11, _ => rfl
  | 12, _ => rfl
  | 13, _ => rfl
  | 14, _ => rfl
  | 15, _ => rfl
  | 16, _ => rfl
  | 17, _ => rfl
  | 18, _ => rfl
  | 19, _ => rfl
  | 20, _ => rfl
  | 21, _ => rfl
  | 22, _ => rfl
  | 23, _ => rfl
  | 24, _ => rfl
  | 25, _ => rfl
  | 26, _ => rfl
  | n + 27, h => exact absurd h (by omega)

set_option maxHeartbeats 400000 in
theorem new_ok (n me p : Int) (w : World) (h : mayB n me p = true) :
    Calls Try.prog 9 #[.int .i64 n, .int .i64 me, .int .u64 p] w fun e w' => e = .returned (.tuple #[.pointer (some ⟨w.heap.size, 0, none⟩), .int .i64 0]) ∧
      IsBeat w' w.heap.size (BSt.init n me p) ∧ w.grownBy w' none ∧ w'.heap.size = w.heap.size + 1 := by
  simp only [mayB, Bool.and_eq_true, decide_eq_true_eq] at h
  obtain ⟨⟨⟨⟨⟨h1, h2⟩, h3⟩, h4⟩, h5⟩, h6⟩ := h
  have hp : (p == 0) = false := by simp; omega
  go_enter Try.func9, Try.ntmps9
  go_wp2
  go_ret2
  exact ⟨rfl, World.rowIs_alloc w _ _ _ (fun i hi => init_cell n me p i hi), World.grownBy_alloc _ _ _, by simp⟩

set_option maxHeartbeats 400000 in
theorem new_bad (n me p : Int) (w : World) (h : mayB n me p = false) (h0 : 0 ≤ p) :
    Calls Try.prog 9 #[.int .i64 n, .int .i64 me, .int .u64 p] w fun e w' => e = .returned (.tuple #[.pointer none, .int .i64 1]) ∧ w = w' := by
  simp only [mayB, Bool.and_eq_false_iff, decide_eq_false_iff_not] at h
  have H := hide h
  clear h
  go_enter Try.func9, Try.ntmps9
  go_wp2
  all_goals first | (exfalso; have := H.out; simp_all; omega) | (go_ret2; exact ⟨rfl, rfl⟩)

set_option maxHeartbeats 400000 in
theorem rnew_ok (n me p : Int) (w : World) (h : mayB n me p = true) :
    Calls Try.prog 10 #[.int .i64 n, .int .i64 me, .int .u64 p] w fun e w' => e = .returned (.pointer (some ⟨w.heap.size, 0, none⟩)) ∧
      IsRef w' w.heap.size (BSt.init n me p) ∧ w.grownBy w' none ∧ w'.heap.size = w.heap.size + 1 := by
  simp only [mayB, Bool.and_eq_true, decide_eq_true_eq] at h
  obtain ⟨⟨⟨⟨⟨h1, h2⟩, h3⟩, h4⟩, h5⟩, h6⟩ := h
  have hp : (p == 0) = false := by simp; omega
  go_enter Try.func10, Try.ntmps10
  go_wp2
  go_ret
  exact ⟨rfl, World.rowIs_alloc w _ _ _ (fun i hi => init_rcell n me p i hi), World.grownBy_alloc _ _ _, by simp⟩

set_option maxHeartbeats 400000 in
theorem rnew_bad (n me p : Int) (w : World) (h : mayB n me p = false) (h0 : 0 ≤ p) :
    Calls Try.prog 10 #[.int .i64 n, .int .i64 me, .int .u64 p] w fun e w' => e = .returned (.pointer none) ∧ w = w' := by
  simp only [mayB, Bool.and_eq_false_iff, decide_eq_false_iff_not] at h
  have H := hide h
  clear h
  go_enter Try.func10, Try.ntmps10
  go_wp2
  all_goals first | (exfalso; have := H.out; simp_all; omega) | (go_ret; exact ⟨rfl, rfl⟩)

set_option maxHeartbeats 400000 in
theorem heard_any (b : Nat) (s : BSt) (who now : Int) (w : World) (h : IsBeat w b s) (hn : s.n ≤ 7) :
    Calls Try.prog 11 #[.pointer (some ⟨b, 0, none⟩), .int .i64 who, .int .u64 now] w fun e w' => e = .returned (.bool (heardB s who)) ∧ IsBeat w' b (heardS s who now) ∧ w.grownBy w' (some b) ∧ w'.heap.size = w.heap.size := by
  cases hin : inB s.n who with
  | false =>
    have hB : heardB s who = false := by simp [heardB, hin]
    have hS : heardS s who now = s := by simp [heardS, hB]
    rw [hB, hS]
    have H := hide h
    clear h hB hS
    have I := hide hin
    clear hin
    go_enter Try.func11, Try.ntmps11
    go_wp2_with (go_at_call 23; refine (in_any b s _ _ H.out).mono ?_; rw [I.out]; rintro e w' ⟨rfl, rfl⟩)
    go_ret
    exact ⟨rfl, H.out, .refl _ _, rfl⟩
  | true =>
    have hw : 1 ≤ who ∧ who ≤ s.n := by simpa [inB] using hin
    have h1 := h.c1
    by_cases hm : who = s.me
    · have hB : heardB s who = false := by simp [heardB, hm]
      have hS : heardS s who now = s := by simp [heardS, hB]
      rw [hB, hS]
      have H := hide h
      clear h hB hS
      have I := hide hin
      clear hin
      have hm' : (who == s.me) = true := by simp [hm]
      clear hm
      go_enter Try.func11, Try.ntmps11
      go_wp2_with (go_at_call 23; refine (in_any b s _ _ H.out).mono ?_; rw [I.out]; rintro e w' ⟨rfl, rfl⟩)
      go_ret
      exact ⟨rfl, H.out, .refl _ _, rfl⟩
    · have hB : heardB s who = true := by simp [heardB, hin, hm]
      have hS : heardS s who now = { s with was := upd s.was who.toNat true, ht := upd s.ht who.toNat (max (s.ht who.toNat) now) } := by simp [heardS, hB]
      rw [hB, hS]
      have H := hide h
      have hk : who.toNat < 8 := by omega
      have c1 := h.was who.toNat hk
      have c2 := h.ht who.toNat hk
      have f1 := h.free (3 + who.toNat * 2)
      have f2 := h.free (3 + who.toNat * 2 + 1)
      have R := fun v => h.heard who.toNat hk v
      have R' := hide R
      clear h hB hS R
      have I := hide hin
      clear hin
      have hm' : (who == s.me) = false := by simp [hm]
      clear hm
      by_cases hlt : s.ht who.toNat < now
      · have hx : max (s.ht who.toNat) now = now := by omega
        rw [hx]
        clear hx
        go_enter Try.func11, Try.ntmps11
        go_wp2_with (go_at_call 23; refine (in_any b s _ _ H.out).mono ?_; rw [I.out]; rintro e w' ⟨rfl, rfl⟩)
        go_ret
        exact ⟨rfl, R'.out _, only_set (only_set (.refl _ _) _ _) _ _, by simp only [size_setCell]⟩
      · have hx : max (s.ht who.toNat) now = s.ht who.toNat := by omega
        rw [hx]
        clear hx
        go_enter Try.func11, Try.ntmps11
        go_wp2_with (go_at_call 23; refine (in_any b s _ _ H.out).mono ?_; rw [I.out]; rintro e w' ⟨rfl, rfl⟩)
        go_ret
        exact ⟨rfl, R'.out _, only_set (only_set (.refl _ _) _ _) _ _, by simp only [size_setCell]⟩

end Go.Proofs.Ytonjpdidbgicgaa
