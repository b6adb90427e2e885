/-
  Chapter 21: what the small functions of the program and of the document's answer do, walked through their texts.
-/
import Derived.Test.YtioehmlaaimeaaaRows
import Derived.Test.YtioehmlaaimeaaaP
import Derived.Test.YtioehmlaaimeaaaK3
import Derived.WalkKit
import Derived.WalkSpells
import Derived.WalkLawsBesides
import Derived.StillTailTactics
import Derived.BigQuiet
import Derived.Lib.Hide
namespace Go.Proofs.Ytioehmlaaimeaaa
open Go.RowKit

theorem mixed : Try.prog.follows .mixedOrders = true := by kernel_rfl
abbrev IsB := BagIs 66 33
abbrev IsR := BagIs 54 38

set_option maxHeartbeats 400000 in
theorem who_any (n : Int) (w : World) : Calls Try.prog 28 #[.int .i64 n] w fun e w' => e = .returned (.bool (decide (1 ≤ n) && decide (n ≤ 7))) ∧ w = w' := by
  by_cases h1 : 1 ≤ n
  · go_enter Try.func28, Try.ntmps28
    go_wp2
    go_ret
    exact ⟨by simp [h1], rfl⟩
  · go_enter Try.func28, Try.ntmps28
    go_wp2
    go_ret
    exact ⟨by simp; omega, rfl⟩

set_option maxHeartbeats 400000 in
theorem new_ok (n : Int) (w : World) (h1 : 1 ≤ n) (h2 : n ≤ 512) :
    Calls Try.prog 8 #[.int .i64 n] w fun e w' => e = .returned (.tuple #[.pointer (some ⟨w.heap.size, 0, none⟩), .int .i64 0]) ∧
      IsB w' w.heap.size w.heap.size (.slice none 0 0) [] n ∧ Below w.heap.size w w' := by
  go_enter Try.func8, Try.ntmps8
  go_wp2
  go_ret2
  exact ⟨rfl, ⟨Blk.new _ _ _, World.ownsRow_nil _ _ _ _, Nat.le_refl _, by simp; omega, h1, h2⟩, (Below.refl _ _).alloc (Nat.le_refl _) _⟩

set_option maxHeartbeats 400000 in
theorem rnew_ok (n : Int) (w : World) (h1 : 1 ≤ n) (h2 : n ≤ 512) :
    Calls Try.prog 9 #[.int .i64 n] w fun e w' => e = .returned (.pointer (some ⟨w.heap.size, 0, none⟩)) ∧
      IsR w' w.heap.size w.heap.size (.slice none 0 0) [] n ∧ Below w.heap.size w w' := by
  go_enter Try.func9, Try.ntmps9
  go_wp2
  go_ret
  exact ⟨rfl, ⟨Blk.new _ _ _, World.ownsRow_nil _ _ _ _, Nat.le_refl _, by simp; omega, h1, h2⟩, (Below.refl _ _).alloc (Nat.le_refl _) _⟩

set_option maxHeartbeats 400000 in
theorem new_bad (n : Int) (w : World) (h : n < 1 ∨ 512 < n) :
    Calls Try.prog 8 #[.int .i64 n] w fun e w' => e = .returned (.tuple #[.pointer none, .int .i64 1]) ∧ w = w' := by
  rcases h with h | h
  · go_enter Try.func8, Try.ntmps8
    go_wp2
    go_ret2
    exact ⟨rfl, rfl⟩
  · have h1 : 1 ≤ n := by omega
    go_enter Try.func8, Try.ntmps8
    go_wp2
    go_ret2
    exact ⟨rfl, rfl⟩

set_option maxHeartbeats 400000 in
theorem rnew_bad (n : Int) (w : World) (h : n < 1 ∨ 512 < n) :
    Calls Try.prog 9 #[.int .i64 n] w fun e w' => e = .returned (.pointer none) ∧ w = w' := by
  rcases h with h | h
  · go_enter Try.func9, Try.ntmps9
    go_wp2
    go_ret
    exact ⟨rfl, rfl⟩
  · have h1 : 1 ≤ n := by omega
    go_enter Try.func9, Try.ntmps9
    go_wp2
    go_ret
    exact ⟨rfl, rfl⟩

set_option maxHeartbeats 400000 in
theorem len_any (base b : Nat) (v : Value) (l : List It) (room : Int) (w : World) (h : IsB w base b v l room) :
    Calls Try.prog 22 #[.pointer (some ⟨b, 0, none⟩)] w fun e w' => e = .returned (.int .i64 l.length) ∧ w = w' := by
  obtain ⟨A, cap, rfl⟩ := h.slice
  have c0 := (h.blk.cell 0).trans rfl
  go_enter Try.func22, Try.ntmps22
  go_wp2
  go_ret
  exact ⟨rfl, rfl⟩

set_option maxHeartbeats 400000 in
theorem find_any (base b : Nat) (v : Value) (l : List It) (room p : Int) (w : World) (h : IsB w base b v l room) :
    Calls Try.prog 25 #[.pointer (some ⟨b, 0, none⟩), .int .i64 p] w fun e w' => e = .returned (.tuple #[.int .i64 (pickN l p), .int .i64 (pickE l p)]) ∧ w = w' := by
  obtain ⟨A, cap, rfl⟩ := h.slice
  have c0 := (h.blk.cell 0).trans rfl
  have hl := h.lr
  have h5 := h.r2
  by_cases h0 : p < 0
  · have e : pickE l p = 1 := if_pos h0
    have e2 : pickN l p = 0 := by rw [pickN, e]; rfl
    rw [e, e2]
    clear e e2
    go_enter Try.func25, Try.ntmps25
    go_wp2
    go_ret2
    exact ⟨rfl, rfl⟩
  · by_cases h1 : l.length = 0
    · have e : pickE l p = 5 := by rw [pickE, if_neg h0, if_pos h1]
      have e2 : pickN l p = 0 := by rw [pickN, e]; rfl
      rw [e, e2]
      clear e e2
      have h1' : (l.length : Int) = 0 := by omega
      have h0' : 0 ≤ p := by omega
      go_enter Try.func25, Try.ntmps25
      go_wp2
      go_ret2
      exact ⟨rfl, rfl⟩
    · have e : pickE l p = 0 := by rw [pickE, if_neg h0, if_neg h1]
      have e2 : ((pickN l p : Nat) : Int) = p % l.length := by
        rw [pickN, if_pos e]
        have : 0 ≤ p % (l.length : Int) := Int.emod_nonneg _ (by omega)
        omega
      rw [e, e2]
      clear e e2
      have h1' : (1 : Int) ≤ l.length := by omega
      have h1'' : ((l.length : Int) == 0) = false := beq_false_of_ne (by omega)
      have h0' : 0 ≤ p := by omega
      go_enter Try.func25, Try.ntmps25
      go_wp2
      go_ret2
      exact ⟨rfl, rfl⟩

set_option maxHeartbeats 400000 in
theorem rpick_any (base b : Nat) (v : Value) (l : List It) (room p : Int) (w : World) (h : IsR w base b v l room) :
    Calls Try.prog 27 #[.pointer (some ⟨b, 0, none⟩), .int .i64 p] w fun e w' => e = .returned (.tuple #[.int .i64 (pickN l p), .int .i64 (pickE l p)]) ∧ w = w' := by
  obtain ⟨A, cap, rfl⟩ := h.slice
  have c0 := (h.blk.cell 0).trans rfl
  have hl := h.lr
  have h5 := h.r2
  by_cases h0 : p < 0
  · have e : pickE l p = 1 := if_pos h0
    have e2 : pickN l p = 0 := by rw [pickN, e]; rfl
    rw [e, e2]
    clear e e2
    go_enter Try.func27, Try.ntmps27
    go_wp2
    go_ret2
    exact ⟨rfl, rfl⟩
  · by_cases h1 : l.length = 0
    · have e : pickE l p = 5 := by rw [pickE, if_neg h0, if_pos h1]
      have e2 : pickN l p = 0 := by rw [pickN, e]; rfl
      rw [e, e2]
      clear e e2
      have h1' : (l.length : Int) = 0 := by omega
      have h0' : 0 ≤ p := by omega
      go_enter Try.func27, Try.ntmps27
      go_wp2
      go_ret2
      exact ⟨rfl, rfl⟩
    · have e : pickE l p = 0 := by rw [pickE, if_neg h0, if_neg h1]
      have e2 : ((pickN l p : Nat) : Int) = p % l.length := by
        rw [pickN, if_pos e]
        have : 0 ≤ p % (l.length : Int) := Int.emod_nonneg _ (by omega)
        omega
      rw [e, e2]
      clear e e2
      have h1' : (1 : Int) ≤ l.length := by omega
      have h1'' : ((l.length : Int) == 0) = false := beq_false_of_ne (by omega)
      have h0' : 0 ≤ p := by omega
      go_enter Try.func27, Try.ntmps27
      go_wp2
      go_ret2
      exact ⟨rfl, rfl⟩

set_option maxHeartbeats 400000 in
theorem one_any (x : Bool) (w : World) : Calls Try.prog 24 #[.bool x] w fun e w' => e = .returned (.int .i64 (if x then 1 else 0)) ∧ w = w' := by
  cases x with
  | true =>
    go_enter Try.func24, Try.ntmps24
    go_wp2
    go_ret
    exact ⟨rfl, rfl⟩
  | false =>
    go_enter Try.func24, Try.ntmps24
    go_wp2
    go_ret
    exact ⟨rfl, rfl⟩

set_option maxHeartbeats 400000 in
theorem ref_any (x : It) (w : World) : Calls Try.prog 12 #[x.val] w fun e w' => e = .returned x.val ∧ Below w.heap.size w w' := by
  go_enter Try.func12, Try.ntmps12
  go_wp2
  refine bodyPost_ret (v := x.val) (by simp [results, Try.results12, go_sem]) rfl ?_
  exact ⟨rfl, ((Below.refl _ _).alloc (Nat.le_refl _) _).alloc (by simp) _⟩

end Go.Proofs.Ytioehmlaaimeaaa
