/-
  Chapter 2: reading the next bytes, walked through the program's text and the document's.
-/
import Derived.Test.YtjneagcomaljdaaRows
import Derived.Test.YtjneagcomaljdaaK3
import Derived.WalkKit
import Derived.WalkSpells
import Derived.WalkLawsBesides
import Derived.StillTailTactics
import Derived.BigQuiet
import Derived.Deep.CutBlock
namespace Go.Proofs.Ytjneagcomaljdaa
open Go.RowKit

theorem mixed : Try.prog.follows .mixedOrders = true := by kernel_rfl

/-- A reader's value. -/
abbrev rdV (s : ByteArray) (bad : Bool) : Value := .agg #[.string s, .bool bad]

/-- The next bytes: they, and the reader behind them. -/
def bytesB (s : ByteArray) (bad : Bool) (m : Int) : ByteArray × ByteArray × Bool :=
  if bad = true ∨ m < 0 ∨ (s.size : Int) < m then (⟨#[]⟩, ⟨#[]⟩, true) else (s.extract 0 m.toNat, s.extract m.toNat s.size, false)

theorem bytesB_neg {s : ByteArray} {b : Bool} {m : Int} (h : m < 0) : bytesB s b m = (⟨#[]⟩, ⟨#[]⟩, true) := if_pos (.inr (.inl h))
theorem bytesB_far {s : ByteArray} {b : Bool} {m : Int} (h : (s.size : Int) < m) : bytesB s b m = (⟨#[]⟩, ⟨#[]⟩, true) := if_pos (.inr (.inr h))
theorem bytesB_bad {s : ByteArray} {m : Int} : bytesB s true m = (⟨#[]⟩, ⟨#[]⟩, true) := if_pos (.inl rfl)
theorem bytesB_ok {s : ByteArray} {m : Nat} (h : m ≤ s.size) : bytesB s false (m : Int) = (s.extract 0 m, s.extract m s.size, false) := by
  unfold bytesB
  rw [if_neg (by simp; omega)]
  simp

set_option maxHeartbeats 1000000 in
theorem bytes_ok (s : ByteArray) (m : Nat) (w : World) (hm : m ≤ s.size) (hs : s.size ≤ maxLen) :
    Calls Try.prog 14 #[rdV s false, .int .i64 m] w fun e w' => e = .returned (.tuple #[.string (s.extract 0 m), rdV (s.extract m s.size) false]) ∧ Below w.heap.size w w' := by
  unfold maxLen at hs
  have h1 : (m : Int) ≤ s.size := by omega
  go_enter Try.func14, Try.ntmps14
  go_wp2_with fail
  refine wp_scope_once 0 rfl ?_
  go_wp2_with fail
  refine wp_region_tail 10 mixed (by kernel_rfl) ?_
  simp only [List.take_succ_cons, List.take_zero, List.drop_succ_cons, List.drop_zero]
  repeat still_step
  refine wpStill_nil ?_
  go_wp2_with fail
  refine once_ret ?_
  exact bodyPost_ret (v := .tuple #[.string (s.extract 0 m), rdV (s.extract m s.size) false]) (by simp [results, Try.results14, go_sem]) rfl ⟨rfl, (((Below.refl _ _).alloc (Nat.le_refl _) _).alloc (by simp) _).drew⟩

set_option maxHeartbeats 1000000 in
theorem bytes_bad1 (s : ByteArray) (m : Int) (w : World) :
    Calls Try.prog 14 #[rdV s true, .int .i64 m] w fun e w' => e = .returned (.tuple #[.string ⟨#[]⟩, rdV ⟨#[]⟩ true]) ∧ Below w.heap.size w w' := by
  go_enter Try.func14, Try.ntmps14
  go_wp2_with fail
  refine wp_scope_once 0 rfl ?_
  go_wp2_with fail
  go_step3
  refine once_goto ?_
  go_wp2_with fail
  refine noGoto_ret' ?_
  exact bodyPost_ret (v := .tuple #[.string ⟨#[]⟩, rdV ⟨#[]⟩ true]) (by simp [results, Try.results14, go_sem]) rfl ⟨rfl, ((Below.refl _ _).alloc (Nat.le_refl _) _).alloc (by simp) _⟩

set_option maxHeartbeats 1000000 in
theorem bytes_bad2 (s : ByteArray) (m : Int) (w : World) (h : m < 0) :
    Calls Try.prog 14 #[rdV s false, .int .i64 m] w fun e w' => e = .returned (.tuple #[.string ⟨#[]⟩, rdV ⟨#[]⟩ true]) ∧ Below w.heap.size w w' := by
  go_enter Try.func14, Try.ntmps14
  go_wp2_with fail
  refine wp_scope_once 0 rfl ?_
  go_wp2_with fail
  go_step3
  refine once_goto ?_
  go_wp2_with fail
  refine noGoto_ret' ?_
  exact bodyPost_ret (v := .tuple #[.string ⟨#[]⟩, rdV ⟨#[]⟩ true]) (by simp [results, Try.results14, go_sem]) rfl ⟨rfl, ((Below.refl _ _).alloc (Nat.le_refl _) _).alloc (by simp) _⟩

set_option maxHeartbeats 1000000 in
theorem bytes_bad3 (s : ByteArray) (m : Int) (w : World) (h : 0 ≤ m) (h2 : (s.size : Int) < m) :
    Calls Try.prog 14 #[rdV s false, .int .i64 m] w fun e w' => e = .returned (.tuple #[.string ⟨#[]⟩, rdV ⟨#[]⟩ true]) ∧ Below w.heap.size w w' := by
  go_enter Try.func14, Try.ntmps14
  go_wp2_with fail
  refine wp_scope_once 0 rfl ?_
  go_wp2_with fail
  go_step3
  refine once_goto ?_
  go_wp2_with fail
  refine noGoto_ret' ?_
  exact bodyPost_ret (v := .tuple #[.string ⟨#[]⟩, rdV ⟨#[]⟩ true]) (by simp [results, Try.results14, go_sem]) rfl ⟨rfl, ((Below.refl _ _).alloc (Nat.le_refl _) _).alloc (by simp) _⟩

/-- The next bytes, whatever is asked. -/
theorem bytes_any (s : ByteArray) (bad : Bool) (m : Int) (w : World) (hs : s.size ≤ maxLen) :
    Calls Try.prog 14 #[rdV s bad, .int .i64 m] w fun e w' => e = .returned (.tuple #[.string (bytesB s bad m).1, rdV (bytesB s bad m).2.1 (bytesB s bad m).2.2]) ∧ Below w.heap.size w w' := by
  cases bad with
  | true => exact bytes_bad1 s m w
  | false =>
    by_cases h : m < 0
    · rw [bytesB_neg h]; exact bytes_bad2 s m w h
    · by_cases h2 : (s.size : Int) < m
      · rw [bytesB_far h2]; exact bytes_bad3 s m w (by omega) h2
      · obtain ⟨k, rfl⟩ : ∃ k : Nat, m = k := ⟨m.toNat, by omega⟩
        rw [bytesB_ok (by omega)]
        exact bytes_ok s k w (by omega) hs

set_option maxHeartbeats 1000000 in
theorem rbytes_ok (s : ByteArray) (m : Nat) (w : World) (hm : m ≤ s.size) (hs : s.size ≤ maxLen) :
    Calls Try.prog 15 #[rdV s false, .int .i64 m] w fun e w' => e = .returned (.tuple #[.string (s.extract 0 m), rdV (s.extract m s.size) false]) ∧ Below w.heap.size w w' := by
  unfold maxLen at hs
  have h1 : (m : Int) ≤ s.size := by omega
  go_enter Try.func15, Try.ntmps15
  go_wp2_with fail
  refine wp_region_tail 10 mixed (by kernel_rfl) ?_
  simp only [List.take_succ_cons, List.take_zero, List.drop_succ_cons, List.drop_zero]
  repeat still_step
  refine wpStill_nil ?_
  go_wp2_with fail
  exact bodyPost_ret (v := .tuple #[.string (s.extract 0 m), rdV (s.extract m s.size) false]) (by simp [results, Try.results15, go_sem]) rfl ⟨rfl, (((Below.refl _ _).alloc (Nat.le_refl _) _).alloc (by simp) _).drew⟩

set_option maxHeartbeats 1000000 in
theorem rbytes_bad1 (s : ByteArray) (m : Int) (w : World) :
    Calls Try.prog 15 #[rdV s true, .int .i64 m] w fun e w' => e = .returned (.tuple #[.string ⟨#[]⟩, rdV ⟨#[]⟩ true]) ∧ Below w.heap.size w w' := by
  go_enter Try.func15, Try.ntmps15
  go_wp2_with fail
  exact bodyPost_ret (v := .tuple #[.string ⟨#[]⟩, rdV ⟨#[]⟩ true]) (by simp [results, Try.results15, go_sem]) rfl ⟨rfl, ((Below.refl _ _).alloc (Nat.le_refl _) _).alloc (by simp) _⟩

set_option maxHeartbeats 1000000 in
theorem rbytes_bad2 (s : ByteArray) (m : Int) (w : World) (h : m < 0) :
    Calls Try.prog 15 #[rdV s false, .int .i64 m] w fun e w' => e = .returned (.tuple #[.string ⟨#[]⟩, rdV ⟨#[]⟩ true]) ∧ Below w.heap.size w w' := by
  go_enter Try.func15, Try.ntmps15
  go_wp2_with fail
  exact bodyPost_ret (v := .tuple #[.string ⟨#[]⟩, rdV ⟨#[]⟩ true]) (by simp [results, Try.results15, go_sem]) rfl ⟨rfl, ((Below.refl _ _).alloc (Nat.le_refl _) _).alloc (by simp) _⟩

set_option maxHeartbeats 1000000 in
theorem rbytes_bad3 (s : ByteArray) (m : Int) (w : World) (h : 0 ≤ m) (h2 : (s.size : Int) < m) :
    Calls Try.prog 15 #[rdV s false, .int .i64 m] w fun e w' => e = .returned (.tuple #[.string ⟨#[]⟩, rdV ⟨#[]⟩ true]) ∧ Below w.heap.size w w' := by
  go_enter Try.func15, Try.ntmps15
  go_wp2_with fail
  exact bodyPost_ret (v := .tuple #[.string ⟨#[]⟩, rdV ⟨#[]⟩ true]) (by simp [results, Try.results15, go_sem]) rfl ⟨rfl, ((Below.refl _ _).alloc (Nat.le_refl _) _).alloc (by simp) _⟩

/-- The next bytes, whatever is asked. -/
theorem rbytes_any (s : ByteArray) (bad : Bool) (m : Int) (w : World) (hs : s.size ≤ maxLen) :
    Calls Try.prog 15 #[rdV s bad, .int .i64 m] w fun e w' => e = .returned (.tuple #[.string (bytesB s bad m).1, rdV (bytesB s bad m).2.1 (bytesB s bad m).2.2]) ∧ Below w.heap.size w w' := by
  cases bad with
  | true => exact rbytes_bad1 s m w
  | false =>
    by_cases h : m < 0
    · rw [bytesB_neg h]; exact rbytes_bad2 s m w h
    · by_cases h2 : (s.size : Int) < m
      · rw [bytesB_far h2]; exact rbytes_bad3 s m w (by omega) h2
      · obtain ⟨k, rfl⟩ : ∃ k : Nat, m = k := ⟨m.toNat, by omega⟩
        rw [bytesB_ok (by omega)]
        exact rbytes_ok s k w (by omega) hs

end Go.Proofs.Ytjneagcomaljdaa
