/-
  Chapter 2: the next text, walked through the program's text and the document's.
-/
import Derived.Test.YtjneagcomaljdaaW4
namespace Go.Proofs.Ytjneagcomaljdaa
open Go.RowKit

/-- The next text: it, and the reader behind it. -/
def textB (s : ByteArray) (bad : Bool) : ByteArray × ByteArray × Bool := bytesB (numB s bad 2).2.1 (numB s bad 2).2.2 (numB s bad 2).1

theorem bytesB_rest (s : ByteArray) (bad : Bool) (m : Int) : (bytesB s bad m).2.1.size ≤ s.size := by
  unfold bytesB
  split
  · exact Nat.zero_le _
  · simp

theorem bytesB_le (s : ByteArray) (bad : Bool) (m : Int) (h : 0 ≤ m) : ((bytesB s bad m).1.size : Int) ≤ m := by
  unfold bytesB
  split
  · exact h
  · simp; omega

theorem numB_rest (s : ByteArray) (bad : Bool) (m : Int) : (numB s bad m).2.1.size ≤ s.size := by
  unfold numB
  split
  · exact Nat.zero_le _
  · exact bytesB_rest s bad m

theorem numB_two (s : ByteArray) (bad : Bool) : (numB s bad 2).1 ≤ 65535 := by
  have e : numB s bad 2 = (leN (bytesB s bad 2).1.data.toList, (bytesB s bad 2).2) := if_neg (by omega)
  rw [e]
  have h1 := leN_lt (bytesB s bad 2).1.data.toList
  have h2 : (bytesB s bad 2).1.data.toList.length ≤ 2 := by
    have := bytesB_le s bad 2 (by omega)
    rw [Array.length_toList]
    have : (bytesB s bad 2).1.data.size = (bytesB s bad 2).1.size := rfl
    omega
  have h3 : 256 ^ (bytesB s bad 2).1.data.toList.length ≤ 256 ^ 2 := Nat.pow_le_pow_right (by omega) h2
  simp only at h1 ⊢
  omega

set_option maxHeartbeats 1000000 in
theorem text_in (s s1 s2 t : ByteArray) (bad b1' b2' : Bool) (N : Nat) (w : World) (hN : N ≤ 65535)
    (hB : ∀ W, Calls Try.prog 8 #[rdV s bad, .int .i64 2] W fun e W' => e = .returned (.tuple #[.int .u64 N, rdV s1 b1']) ∧ Below W.heap.size W W')
    (hC : ∀ W, Calls Try.prog 14 #[rdV s1 b1', .int .i64 N] W fun e W' => e = .returned (.tuple #[.string t, rdV s2 b2']) ∧ Below W.heap.size W W') :
    Calls Try.prog 10 #[rdV s bad] w fun e w' => e = .returned (.tuple #[.string t, rdV s2 b2']) ∧ Below w.heap.size w w' := by
  have HB := hide hB
  have HC := hide hC
  clear hB hC
  have g1 : (N : Int) ≤ 65535 := by omega
  go_enter Try.func10, Try.ntmps10
  go_wp2_with fail
  refine (HB.out _).mono ?_
  rintro e w1 ⟨rfl, hb1⟩
  have h0 : Blk w1 w.heap.size 23 #[.string s, .bool bad] ∧ Blk w1 (w.heap.size + 1) 23 #[.string ⟨#[]⟩, .bool false] := by
    have h1 := Blk.new (w.alloc (.cells #[.string s, .bool bad] 23)) 23 #[.string ⟨#[]⟩, .bool false]
    rw [World.size_alloc] at h1
    have h2 := (Blk.new w 23 #[.string s, .bool bad]).alloc (.cells #[.string ⟨#[]⟩, .bool false] 23)
    exact ⟨h2.below hb1 (by simp; omega), h1.below hb1 (by simp)⟩
  have b1 : Below w.heap.size w w1 := (((Below.refl _ _).alloc (Nat.le_refl _) _).alloc (by simp) _).trans (hb1.mono (by simp; omega))
  have hz : w.heap.size + 1 < w1.heap.size := by have := hb1.size; simp at this; omega
  have hc1 := (h0.1.cell 0).trans rfl
  have hc2 := (h0.1.cell 1).trans rfl
  have hf1 := h0.1.frozen 0
  have hf2 := h0.1.frozen 1
  have H0 := hide h0.2
  have B1 := hide b1
  clear h0 b1 hb1
  go_wp2_with fail
  refine (HC.out _).mono ?_
  rintro e w2 ⟨rfl, hb2⟩
  have hz2 : w.heap.size + 1 < w2.heap.size := by have := hb2.size; simp only [size_setCell] at this; omega
  have hb3 : Below w1.heap.size ((w1.setCell ⟨w.heap.size, 0, none⟩ (.string s1)).setCell ⟨w.heap.size, 1, none⟩ (.bool b1')) w2 := hb2.mono (by simp only [size_setCell]; exact Nat.le_refl _)
  have n2 : Blk w2 (w.heap.size + 1) 23 #[.string ⟨#[]⟩, .bool false] := Blk.below (((H0.out.far (by simp) _).far (by simp) _)) hb3 (by omega)
  have B2 : Below w.heap.size w w2 := ((B1.out.setCell (by simp) _).setCell (by simp) _).trans (hb3.mono (by omega))
  have c0 := (n2.cell 0).trans rfl
  have c1 := (n2.cell 1).trans rfl
  have f0 := n2.frozen 0
  have f1 := n2.frozen 1
  have N2 := hide n2
  have BB := hide B2
  clear hb2 hb3 n2 B2
  go_wp2_with fail
  obtain ⟨W3, hW3⟩ : ∃ W3 : World, W3 = (w2.setCell ⟨w.heap.size + 1, 0, none⟩ (Value.string s2)).setCell ⟨w.heap.size + 1, 1, none⟩ (Value.bool b2') := ⟨_, rfl⟩
  rw [← hW3]
  have nb3 : Blk W3 (w.heap.size + 1) 23 #[.string s2, .bool b2'] := by
    rw [hW3]
    exact (N2.out.set_ 0 _).set_ 1 _
  have bl3 : Below w.heap.size w W3 := by
    rw [hW3]
    exact (BB.out.setCell (by simp) _).setCell (by simp) _
  have e0 := (nb3.cell 0).trans rfl
  have e1 := (nb3.cell 1).trans rfl
  clear hW3 c0 c1 f0 f1
  exact bodyPost_ret (v := .tuple #[.string t, rdV s2 b2']) (by simp [results, Try.results10, go_sem, e0, e1]) rfl ⟨rfl, bl3⟩

theorem text_any (s : ByteArray) (bad : Bool) (w : World) (hs : s.size ≤ maxLen) :
    Calls Try.prog 10 #[rdV s bad] w fun e w' => e = .returned (.tuple #[.string (textB s bad).1, rdV (textB s bad).2.1 (textB s bad).2.2]) ∧ Below w.heap.size w w' :=
  text_in s _ _ _ bad _ _ _ w (numB_two s bad) (fun W => number_any s bad 2 W hs) (fun W => bytes_any _ _ _ W (Nat.le_trans (numB_rest s bad 2) hs))

set_option maxHeartbeats 1000000 in
theorem rtext_in (s s1 s2 t : ByteArray) (bad b1' b2' : Bool) (N : Nat) (w : World) (hN : N ≤ 65535)
    (hB : ∀ W, Calls Try.prog 9 #[rdV s bad, .int .i64 2] W fun e W' => e = .returned (.tuple #[.int .u64 N, rdV s1 b1']) ∧ Below W.heap.size W W')
    (hC : ∀ W, Calls Try.prog 15 #[rdV s1 b1', .int .i64 N] W fun e W' => e = .returned (.tuple #[.string t, rdV s2 b2']) ∧ Below W.heap.size W W') :
    Calls Try.prog 11 #[rdV s bad] w fun e w' => e = .returned (.tuple #[.string t, rdV s2 b2']) ∧ Below w.heap.size w w' := by
  have HB := hide hB
  have HC := hide hC
  clear hB hC
  have g1 : (N : Int) ≤ 65535 := by omega
  go_enter Try.func11, Try.ntmps11
  go_wp2_with fail
  refine (HB.out _).mono ?_
  rintro e w1 ⟨rfl, hb1⟩
  have h0 : Blk w1 (w.heap.size + 1) 28 #[.string ⟨#[]⟩, .bool false] := by
    have h1 := Blk.new (w.alloc (.cells #[.string s, .bool bad] 28)) 28 #[.string ⟨#[]⟩, .bool false]
    rw [World.size_alloc] at h1
    exact h1.below hb1 (by simp)
  have b1 : Below w.heap.size w w1 := (((Below.refl _ _).alloc (Nat.le_refl _) _).alloc (by simp) _).trans (hb1.mono (by simp; omega))
  have hz : w.heap.size + 1 < w1.heap.size := by have := hb1.size; simp at this; omega
  have H0 := hide h0
  have B1 := hide b1
  clear h0 b1 hb1
  go_wp2_with fail
  refine (HC.out _).mono ?_
  rintro e w2 ⟨rfl, hb2⟩
  have hz2 : w.heap.size + 1 < w2.heap.size := by have := hb2.size; simp at this; omega
  have hb3 : Below w1.heap.size (w1.alloc (.cells (#[.string s1, .bool b1'] : Array Value) 28)) w2 := hb2.mono (by simp)
  have n2 : Blk w2 (w.heap.size + 1) 28 #[.string ⟨#[]⟩, .bool false] := Blk.below (H0.out.alloc _) hb3 (by omega)
  have B2 : Below w.heap.size w w2 := (B1.out.alloc B1.out.size _).trans (hb3.mono (by omega))
  have c0 := (n2.cell 0).trans rfl
  have c1 := (n2.cell 1).trans rfl
  have f0 := n2.frozen 0
  have f1 := n2.frozen 1
  have N2 := hide n2
  have BB := hide B2
  clear hb2 hb3 n2 B2
  go_wp2_with fail
  obtain ⟨W3, hW3⟩ : ∃ W3 : World, W3 = (w2.setCell ⟨w.heap.size + 1, 0, none⟩ (Value.string s2)).setCell ⟨w.heap.size + 1, 1, none⟩ (Value.bool b2') := ⟨_, rfl⟩
  rw [← hW3]
  have nb3 : Blk W3 (w.heap.size + 1) 28 #[.string s2, .bool b2'] := by
    rw [hW3]
    exact (N2.out.set_ 0 _).set_ 1 _
  have bl3 : Below w.heap.size w W3 := by
    rw [hW3]
    exact (BB.out.setCell (by simp) _).setCell (by simp) _
  have e0 := (nb3.cell 0).trans rfl
  have e1 := (nb3.cell 1).trans rfl
  clear hW3 c0 c1 f0 f1
  exact bodyPost_ret (v := .tuple #[.string t, rdV s2 b2']) (by simp [results, Try.results11, go_sem, e0, e1]) rfl ⟨rfl, bl3⟩

theorem rtext_any (s : ByteArray) (bad : Bool) (w : World) (hs : s.size ≤ maxLen) :
    Calls Try.prog 11 #[rdV s bad] w fun e w' => e = .returned (.tuple #[.string (textB s bad).1, rdV (textB s bad).2.1 (textB s bad).2.2]) ∧ Below w.heap.size w w' :=
  rtext_in s _ _ _ bad _ _ _ w (numB_two s bad) (fun W => rnumber_any s bad 2 W hs) (fun W => rbytes_any _ _ _ W (Nat.le_trans (numB_rest s bad 2) hs))

end Go.Proofs.Ytjneagcomaljdaa
