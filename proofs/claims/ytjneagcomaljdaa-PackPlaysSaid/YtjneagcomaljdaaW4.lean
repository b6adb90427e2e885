/-
  Chapter 2: the next flag; whether all was read, walked through the program's text and the document's.
-/
import Derived.Test.YtjneagcomaljdaaW3
namespace Go.Proofs.Ytjneagcomaljdaa
open Go.RowKit

/-- The next flag: it, and the reader behind it. -/
def flagB (s : ByteArray) (bad : Bool) : Bool × ByteArray × Bool :=
  if (numB s bad 1).2.2 = true ∨ 1 < (numB s bad 1).1 then (false, ⟨#[]⟩, true) else ((numB s bad 1).1 == 1, (numB s bad 1).2)

set_option maxHeartbeats 1000000 in
theorem flag_ok (s s' : ByteArray) (bad : Bool) (N : Nat) (w : World) (hN : N ≤ 1)
    (hB : ∀ W, Calls Try.prog 8 #[rdV s bad, .int .i64 1] W fun e W' => e = .returned (.tuple #[.int .u64 N, rdV s' false]) ∧ Below W.heap.size W W') :
    Calls Try.prog 12 #[rdV s bad] w fun e w' => e = .returned (.tuple #[.bool (N == 1), rdV s' false]) ∧ Below w.heap.size w w' := by
  have HB := hide hB
  clear hB
  have g1 : (N : Int) ≤ 1 := by omega
  go_enter Try.func12, Try.ntmps12
  go_wp2_with fail
  refine (HB.out _).mono ?_
  rintro e w1 ⟨rfl, hb1⟩
  have h0 : Blk w1 (w.heap.size + 1) 23 #[.string ⟨#[]⟩, .bool false] := by
    have h1 := Blk.new (w.alloc (.cells #[.string s, .bool bad] 23)) 23 #[.string ⟨#[]⟩, .bool false]
    rw [World.size_alloc] at h1
    exact h1.below hb1 (by simp)
  have b1 : Below w.heap.size w w1 := (((Below.refl _ _).alloc (Nat.le_refl _) _).alloc (by simp) _).trans (hb1.mono (by simp; omega))
  have hz : w.heap.size + 1 < w1.heap.size := by have := hb1.size; simp at this; omega
  have hc1 := (h0.cell 0).trans rfl
  have hc2 := (h0.cell 1).trans rfl
  have hf1 := h0.frozen 0
  have hf2 := h0.frozen 1
  have H0 := hide h0
  have B1 := hide b1
  clear h0 b1 hb1
  go_wp2_with fail
  refine wp_region_tail 4 mixed (by kernel_rfl) ?_
  simp only [List.take_succ_cons, List.take_zero, List.drop_succ_cons, List.drop_zero]
  repeat still_step
  refine wpStill_nil ?_
  go_wp2_with fail
  obtain ⟨W3, hW3⟩ : ∃ W3 : World, W3 = (((w1.setCell ⟨w.heap.size + 1, 0, none⟩ (Value.string s')).setCell ⟨w.heap.size + 1, 1, none⟩ (Value.bool false)).alloc (.cells (#[.string s', .bool false] : Array Value) 23)).drew := ⟨_, rfl⟩
  rw [← hW3]
  have nb3 : Blk W3 (w.heap.size + 1) 23 #[.string s', .bool false] := by
    rw [hW3]
    exact Blk.drew (((H0.out.set_ 0 _).set_ 1 _).alloc _)
  have bl3 : Below w.heap.size w W3 := by
    rw [hW3]
    exact (((B1.out.setCell (by simp) _).setCell (by simp) _).alloc (by have := B1.out.size; simp only [size_setCell]; omega) _).drew
  have e0 := (nb3.cell 0).trans rfl
  have e1 := (nb3.cell 1).trans rfl
  clear hW3 hc1 hc2 hf1 hf2
  have hNN : ((N : Int) == 1) = (N == 1) := by rw [Bool.eq_iff_iff]; simp; omega
  exact bodyPost_ret (v := .tuple #[.bool (N == 1), rdV s' false]) (by simp [results, Try.results12, go_sem, e0, e1, hNN]) rfl ⟨rfl, bl3⟩

set_option maxHeartbeats 1000000 in
theorem flag_bad (s s' : ByteArray) (bad bd : Bool) (N : Nat) (w : World) (hN : bd = true ∨ 1 < N)
    (hB : ∀ W, Calls Try.prog 8 #[rdV s bad, .int .i64 1] W fun e W' => e = .returned (.tuple #[.int .u64 N, rdV s' bd]) ∧ Below W.heap.size W W') :
    Calls Try.prog 12 #[rdV s bad] w fun e w' => e = .returned (.tuple #[.bool false, rdV ⟨#[]⟩ true]) ∧ Below w.heap.size w w' := by
  have HB := hide hB
  clear hB
  have key : ∀ w1 : World, Below ((w.alloc (.cells #[.string s, .bool bad] 23)).alloc (.cells #[.string ⟨#[]⟩, .bool false] 23)).heap.size ((w.alloc (.cells #[.string s, .bool bad] 23)).alloc (.cells #[.string ⟨#[]⟩, .bool false] 23)) w1 →
      Blk w1 (w.heap.size + 1) 23 #[.string ⟨#[]⟩, .bool false] ∧ Below w.heap.size w w1 ∧ w.heap.size + 1 < w1.heap.size := by
    intro w1 hb1
    refine ⟨?_, (((Below.refl _ _).alloc (Nat.le_refl _) _).alloc (by simp) _).trans (hb1.mono (by simp; omega)), by have := hb1.size; simp at this; omega⟩
    have h1 := Blk.new (w.alloc (.cells #[.string s, .bool bad] 23)) 23 #[.string ⟨#[]⟩, .bool false]
    rw [World.size_alloc] at h1
    exact h1.below hb1 (by simp)
  have KEY := hide key
  clear key
  cases bd with
  | true =>
    clear hN
    go_enter Try.func12, Try.ntmps12
    go_wp2_with fail
    refine (HB.out _).mono ?_
    rintro e w1 ⟨rfl, hb1⟩
    obtain ⟨h0, b1, hz⟩ := KEY.out w1 hb1
    have hc1 := (h0.cell 0).trans rfl
    have hc2 := (h0.cell 1).trans rfl
    have hf1 := h0.frozen 0
    have hf2 := h0.frozen 1
    have H0 := hide h0
    have B1 := hide b1
    clear h0 b1 hb1
    go_wp2_with fail
    obtain ⟨W3, hW3⟩ : ∃ W3 : World, W3 = ((w1.setCell ⟨w.heap.size + 1, 0, none⟩ (Value.string ⟨#[]⟩)).setCell ⟨w.heap.size + 1, 1, none⟩ (Value.bool true)).alloc (.cells (#[.string s', .bool true] : Array Value) 23) := ⟨_, rfl⟩
    rw [← hW3]
    have nb3 : Blk W3 (w.heap.size + 1) 23 #[.string ⟨#[]⟩, .bool true] := by
      rw [hW3]
      exact ((H0.out.set_ 0 _).set_ 1 _).alloc _
    have bl3 : Below w.heap.size w W3 := by
      rw [hW3]
      exact ((B1.out.setCell (by simp) _).setCell (by simp) _).alloc (by have := B1.out.size; simp only [size_setCell]; omega) _
    have e0 := (nb3.cell 0).trans rfl
    have e1 := (nb3.cell 1).trans rfl
    clear hW3 hc1 hc2 hf1 hf2
    exact bodyPost_ret (v := .tuple #[.bool false, rdV ⟨#[]⟩ true]) (by simp [results, Try.results12, go_sem, e0, e1]) rfl ⟨rfl, bl3⟩
  | false =>
    have g1 : (1 : Int) < N := by simp at hN; omega
    clear hN
    go_enter Try.func12, Try.ntmps12
    go_wp2_with fail
    refine (HB.out _).mono ?_
    rintro e w1 ⟨rfl, hb1⟩
    obtain ⟨h0, b1, hz⟩ := KEY.out w1 hb1
    have hc1 := (h0.cell 0).trans rfl
    have hc2 := (h0.cell 1).trans rfl
    have hf1 := h0.frozen 0
    have hf2 := h0.frozen 1
    have H0 := hide h0
    have B1 := hide b1
    clear h0 b1 hb1
    go_wp2_with fail
    obtain ⟨W3, hW3⟩ : ∃ W3 : World, W3 = ((w1.setCell ⟨w.heap.size + 1, 0, none⟩ (Value.string ⟨#[]⟩)).setCell ⟨w.heap.size + 1, 1, none⟩ (Value.bool true)).alloc (.cells (#[.string s', .bool false] : Array Value) 23) := ⟨_, rfl⟩
    rw [← hW3]
    have nb3 : Blk W3 (w.heap.size + 1) 23 #[.string ⟨#[]⟩, .bool true] := by
      rw [hW3]
      exact ((H0.out.set_ 0 _).set_ 1 _).alloc _
    have bl3 : Below w.heap.size w W3 := by
      rw [hW3]
      exact ((B1.out.setCell (by simp) _).setCell (by simp) _).alloc (by have := B1.out.size; simp only [size_setCell]; omega) _
    have e0 := (nb3.cell 0).trans rfl
    have e1 := (nb3.cell 1).trans rfl
    clear hW3 hc1 hc2 hf1 hf2
    exact bodyPost_ret (v := .tuple #[.bool false, rdV ⟨#[]⟩ true]) (by simp [results, Try.results12, go_sem, e0, e1]) rfl ⟨rfl, bl3⟩

theorem flag_any (s : ByteArray) (bad : Bool) (w : World) (hs : s.size ≤ maxLen) :
    Calls Try.prog 12 #[rdV s bad] w fun e w' => e = .returned (.tuple #[.bool (flagB s bad).1, rdV (flagB s bad).2.1 (flagB s bad).2.2]) ∧ Below w.heap.size w w' := by
  have hn := fun W => number_any s bad 1 W hs
  by_cases h : (numB s bad 1).2.2 = true ∨ 1 < (numB s bad 1).1
  · have e : flagB s bad = (false, ⟨#[]⟩, true) := if_pos h
    rw [e]
    exact flag_bad s _ bad _ _ w h hn
  · have e : flagB s bad = ((numB s bad 1).1 == 1, (numB s bad 1).2) := if_neg h
    have hf : (numB s bad 1).2.2 = false := by
      cases hh : (numB s bad 1).2.2 with
      | false => rfl
      | true => exact absurd (.inl hh) h
    rw [e]
    simp only [hf] at hn ⊢
    exact flag_ok s _ bad _ w (by omega) hn

set_option maxHeartbeats 1000000 in
theorem done_any (s : ByteArray) (bad : Bool) (w : World) :
    Calls Try.prog 16 #[rdV s bad] w fun e w' => e = .returned (.bool (!bad && s.toList.isEmpty)) ∧ Below w.heap.size w w' := by
  cases bad with
  | true =>
    cases hs : s.toList.isEmpty with
    | true =>
      go_enter Try.func16, Try.ntmps16
      go_wp2_with fail
      go_ret
      exact ⟨by simp, (Below.refl _ _).alloc (Nat.le_refl _) _⟩
    | false =>
      go_enter Try.func16, Try.ntmps16
      go_wp2_with fail
      go_ret
      exact ⟨by simp, (Below.refl _ _).alloc (Nat.le_refl _) _⟩
  | false =>
    cases hs : s.toList.isEmpty with
    | true =>
      have hs2 : s.toList = [] := by simpa using hs
      go_enter Try.func16, Try.ntmps16
      go_wp2_with fail
      go_ret
      exact ⟨by simp [hs2], (Below.refl _ _).alloc (Nat.le_refl _) _⟩
    | false =>
      go_enter Try.func16, Try.ntmps16
      go_wp2_with fail
      go_ret
      exact ⟨by simp, (Below.refl _ _).alloc (Nat.le_refl _) _⟩

set_option maxHeartbeats 1000000 in
theorem rflag_ok (s s' : ByteArray) (bad : Bool) (N : Nat) (w : World) (hN : N ≤ 1)
    (hB : ∀ W, Calls Try.prog 9 #[rdV s bad, .int .i64 1] W fun e W' => e = .returned (.tuple #[.int .u64 N, rdV s' false]) ∧ Below W.heap.size W W') :
    Calls Try.prog 13 #[rdV s bad] w fun e w' => e = .returned (.tuple #[.bool (N == 1), rdV s' false]) ∧ Below w.heap.size w w' := by
  have HB := hide hB
  clear hB
  have g1 : (N : Int) ≤ 1 := by omega
  go_enter Try.func13, Try.ntmps13
  go_wp2_with fail
  refine (HB.out _).mono ?_
  rintro e w1 ⟨rfl, hb1⟩
  have h0 : Blk w1 (w.heap.size + 1) 28 #[.string ⟨#[]⟩, .bool false] := by
    have h1 := Blk.new (w.alloc (.cells #[.string s, .bool bad] 28)) 28 #[.string ⟨#[]⟩, .bool false]
    rw [World.size_alloc] at h1
    exact h1.below hb1 (by simp)
  have b1 : Below w.heap.size w w1 := (((Below.refl _ _).alloc (Nat.le_refl _) _).alloc (by simp) _).trans (hb1.mono (by simp; omega))
  have hz : w.heap.size + 1 < w1.heap.size := by have := hb1.size; simp at this; omega
  have hc1 := (h0.cell 0).trans rfl
  have hc2 := (h0.cell 1).trans rfl
  have hf1 := h0.frozen 0
  have hf2 := h0.frozen 1
  have H0 := hide h0
  have B1 := hide b1
  clear h0 b1 hb1
  go_wp2_with fail
  refine wp_region_tail 4 mixed (by kernel_rfl) ?_
  simp only [List.take_succ_cons, List.take_zero, List.drop_succ_cons, List.drop_zero]
  repeat still_step
  refine wpStill_nil ?_
  go_wp2_with fail
  obtain ⟨W3, hW3⟩ : ∃ W3 : World, W3 = (((w1.setCell ⟨w.heap.size + 1, 0, none⟩ (Value.string s')).setCell ⟨w.heap.size + 1, 1, none⟩ (Value.bool false)).alloc (.cells (#[.string s', .bool false] : Array Value) 28)).drew := ⟨_, rfl⟩
  rw [← hW3]
  have nb3 : Blk W3 (w.heap.size + 1) 28 #[.string s', .bool false] := by
    rw [hW3]
    exact Blk.drew (((H0.out.set_ 0 _).set_ 1 _).alloc _)
  have bl3 : Below w.heap.size w W3 := by
    rw [hW3]
    exact (((B1.out.setCell (by simp) _).setCell (by simp) _).alloc (by have := B1.out.size; simp only [size_setCell]; omega) _).drew
  have e0 := (nb3.cell 0).trans rfl
  have e1 := (nb3.cell 1).trans rfl
  clear hW3 hc1 hc2 hf1 hf2
  have hNN : ((N : Int) == 1) = (N == 1) := by rw [Bool.eq_iff_iff]; simp; omega
  exact bodyPost_ret (v := .tuple #[.bool (N == 1), rdV s' false]) (by simp [results, Try.results13, go_sem, e0, e1, hNN]) rfl ⟨rfl, bl3⟩

set_option maxHeartbeats 1000000 in
theorem rflag_bad (s s' : ByteArray) (bad bd : Bool) (N : Nat) (w : World) (hN : bd = true ∨ 1 < N)
    (hB : ∀ W, Calls Try.prog 9 #[rdV s bad, .int .i64 1] W fun e W' => e = .returned (.tuple #[.int .u64 N, rdV s' bd]) ∧ Below W.heap.size W W') :
    Calls Try.prog 13 #[rdV s bad] w fun e w' => e = .returned (.tuple #[.bool false, rdV ⟨#[]⟩ true]) ∧ Below w.heap.size w w' := by
  have HB := hide hB
  clear hB
  have key : ∀ w1 : World, Below ((w.alloc (.cells #[.string s, .bool bad] 28)).alloc (.cells #[.string ⟨#[]⟩, .bool false] 28)).heap.size ((w.alloc (.cells #[.string s, .bool bad] 28)).alloc (.cells #[.string ⟨#[]⟩, .bool false] 28)) w1 →
      Blk w1 (w.heap.size + 1) 28 #[.string ⟨#[]⟩, .bool false] ∧ Below w.heap.size w w1 ∧ w.heap.size + 1 < w1.heap.size := by
    intro w1 hb1
    refine ⟨?_, (((Below.refl _ _).alloc (Nat.le_refl _) _).alloc (by simp) _).trans (hb1.mono (by simp; omega)), by have := hb1.size; simp at this; omega⟩
    have h1 := Blk.new (w.alloc (.cells #[.string s, .bool bad] 28)) 28 #[.string ⟨#[]⟩, .bool false]
    rw [World.size_alloc] at h1
    exact h1.below hb1 (by simp)
  have KEY := hide key
  clear key
  cases bd with
  | true =>
    clear hN
    go_enter Try.func13, Try.ntmps13
    go_wp2_with fail
    refine (HB.out _).mono ?_
    rintro e w1 ⟨rfl, hb1⟩
    obtain ⟨h0, b1, hz⟩ := KEY.out w1 hb1
    have hc1 := (h0.cell 0).trans rfl
    have hc2 := (h0.cell 1).trans rfl
    have hf1 := h0.frozen 0
    have hf2 := h0.frozen 1
    have H0 := hide h0
    have B1 := hide b1
    clear h0 b1 hb1
    go_wp2_with fail
    obtain ⟨W3, hW3⟩ : ∃ W3 : World, W3 = ((w1.setCell ⟨w.heap.size + 1, 0, none⟩ (Value.string ⟨#[]⟩)).setCell ⟨w.heap.size + 1, 1, none⟩ (Value.bool true)).alloc (.cells (#[.string s', .bool true] : Array Value) 28) := ⟨_, rfl⟩
    rw [← hW3]
    have nb3 : Blk W3 (w.heap.size + 1) 28 #[.string ⟨#[]⟩, .bool true] := by
      rw [hW3]
      exact ((H0.out.set_ 0 _).set_ 1 _).alloc _
    have bl3 : Below w.heap.size w W3 := by
      rw [hW3]
      exact ((B1.out.setCell (by simp) _).setCell (by simp) _).alloc (by have := B1.out.size; simp only [size_setCell]; omega) _
    have e0 := (nb3.cell 0).trans rfl
    have e1 := (nb3.cell 1).trans rfl
    clear hW3 hc1 hc2 hf1 hf2
    exact bodyPost_ret (v := .tuple #[.bool false, rdV ⟨#[]⟩ true]) (by simp [results, Try.results13, go_sem, e0, e1]) rfl ⟨rfl, bl3⟩
  | false =>
    have g1 : (1 : Int) < N := by simp at hN; omega
    clear hN
    go_enter Try.func13, Try.ntmps13
    go_wp2_with fail
    refine (HB.out _).mono ?_
    rintro e w1 ⟨rfl, hb1⟩
    obtain ⟨h0, b1, hz⟩ := KEY.out w1 hb1
    have hc1 := (h0.cell 0).trans rfl
    have hc2 := (h0.cell 1).trans rfl
    have hf1 := h0.frozen 0
    have hf2 := h0.frozen 1
    have H0 := hide h0
    have B1 := hide b1
    clear h0 b1 hb1
    go_wp2_with fail
    obtain ⟨W3, hW3⟩ : ∃ W3 : World, W3 = ((w1.setCell ⟨w.heap.size + 1, 0, none⟩ (Value.string ⟨#[]⟩)).setCell ⟨w.heap.size + 1, 1, none⟩ (Value.bool true)).alloc (.cells (#[.string s', .bool false] : Array Value) 28) := ⟨_, rfl⟩
    rw [← hW3]
    have nb3 : Blk W3 (w.heap.size + 1) 28 #[.string ⟨#[]⟩, .bool true] := by
      rw [hW3]
      exact ((H0.out.set_ 0 _).set_ 1 _).alloc _
    have bl3 : Below w.heap.size w W3 := by
      rw [hW3]
      exact ((B1.out.setCell (by simp) _).setCell (by simp) _).alloc (by have := B1.out.size; simp only [size_setCell]; omega) _
    have e0 := (nb3.cell 0).trans rfl
    have e1 := (nb3.cell 1).trans rfl
    clear hW3 hc1 hc2 hf1 hf2
    exact bodyPost_ret (v := .tuple #[.bool false, rdV ⟨#[]⟩ true]) (by simp [results, Try.results13, go_sem, e0, e1]) rfl ⟨rfl, bl3⟩

theorem rflag_any (s : ByteArray) (bad : Bool) (w : World) (hs : s.size ≤ maxLen) :
    Calls Try.prog 13 #[rdV s bad] w fun e w' => e = .returned (.tuple #[.bool (flagB s bad).1, rdV (flagB s bad).2.1 (flagB s bad).2.2]) ∧ Below w.heap.size w w' := by
  have hn := fun W => rnumber_any s bad 1 W hs
  by_cases h : (numB s bad 1).2.2 = true ∨ 1 < (numB s bad 1).1
  · have e : flagB s bad = (false, ⟨#[]⟩, true) := if_pos h
    rw [e]
    exact rflag_bad s _ bad _ _ w h hn
  · have e : flagB s bad = ((numB s bad 1).1 == 1, (numB s bad 1).2) := if_neg h
    have hf : (numB s bad 1).2.2 = false := by
      cases hh : (numB s bad 1).2.2 with
      | false => rfl
      | true => exact absurd (.inl hh) h
    rw [e]
    simp only [hf] at hn ⊢
    exact rflag_ok s _ bad _ w (by omega) hn

set_option maxHeartbeats 1000000 in
theorem rdone_any (s : ByteArray) (bad : Bool) (w : World) :
    Calls Try.prog 17 #[rdV s bad] w fun e w' => e = .returned (.bool (!bad && s.toList.isEmpty)) ∧ Below w.heap.size w w' := by
  cases bad with
  | true =>
    cases hs : s.toList.isEmpty with
    | true =>
      go_enter Try.func17, Try.ntmps17
      go_wp2_with fail
      go_ret
      exact ⟨by simp, (Below.refl _ _).alloc (Nat.le_refl _) _⟩
    | false =>
      go_enter Try.func17, Try.ntmps17
      go_wp2_with fail
      go_ret
      exact ⟨by simp, (Below.refl _ _).alloc (Nat.le_refl _) _⟩
  | false =>
    cases hs : s.toList.isEmpty with
    | true =>
      have hs2 : s.toList = [] := by simpa using hs
      go_enter Try.func17, Try.ntmps17
      go_wp2_with fail
      go_ret
      exact ⟨by simp [hs2], (Below.refl _ _).alloc (Nat.le_refl _) _⟩
    | false =>
      go_enter Try.func17, Try.ntmps17
      go_wp2_with fail
      go_ret
      exact ⟨by simp, (Below.refl _ _).alloc (Nat.le_refl _) _⟩

end Go.Proofs.Ytjneagcomaljdaa
