/-
  Chapter 2: PackBack's plain law: what was put is read so; what is cut is bad.
-/
import Derived.Test.YtjneagcomaljdaaB1
namespace Go.Proofs.Ytjneagcomaljdaa
open Go.RowKit

theorem bytesB_app (a b : ByteArray) : bytesB (a ++ b) false (a.size : Int) = (a, b, false) := by
  rw [bytesB_ok (by rw [ByteArray.size_append]; omega), ByteArray.extract_append_eq_left rfl, ByteArray.extract_append_eq_right rfl (by rw [ByteArray.size_append])]

theorem numB_app (a b : ByteArray) (m : Nat) (h : a.size = m) (h1 : 1 ≤ m) (h8 : m ≤ 8) : numB (a ++ b) false (m : Int) = (leN a.data.toList, b, false) := by
  subst h
  unfold numB
  rw [if_neg (by omega), bytesB_app]

theorem numB_put (A k : Nat) (b : ByteArray) (hk : k < 8) (hA : A < 256 ^ (k + 1)) : numB (putB A (k + 1) ++ b) false ((k + 1 : Nat) : Int) = (A, b, false) := by
  rw [numB_app _ _ _ (putB_size _ _) (by omega) (by omega), leN_put, Nat.mod_eq_of_lt hA]

theorem numB_two_put (n : Nat) (b : ByteArray) (hn : n < 65536) : numB (putB n 2 ++ b) false 2 = (n, b, false) := numB_put n 1 b (by omega) hn

theorem textB_put (s b : ByteArray) (hs : s.size ≤ 300) : textB (putB s.size 2 ++ s ++ b) false = (s, b, false) := by
  unfold textB
  rw [ByteArray.append_assoc, numB_two_put _ _ (by omega)]
  exact bytesB_app s b

theorem textB_rest (s : ByteArray) (b : Bool) : (textB s b).2.1.size ≤ s.size := Nat.le_trans (bytesB_rest _ _ _) (numB_rest _ _ _)

theorem isP_size (b : Bool) : (isP b).size = 1 := by cases b <;> rfl
theorem flagB_put (fl : Bool) (b : ByteArray) : flagB (isP fl ++ b) false = (fl, b, false) := by
  have h : numB (isP fl ++ b) false ((1 : Nat) : Int) = (leN (isP fl).data.toList, b, false) := numB_app _ _ 1 (isP_size fl) (by omega) (by omega)
  have h2 : leN (isP fl).data.toList = if fl then 1 else 0 := by cases fl <;> decide
  have h' : numB (isP fl ++ b) false 1 = (if fl then 1 else 0, b, false) := by rw [← h2]; exact h
  unfold flagB
  rw [h']
  cases fl <;> simp

theorem flagB_bad (s : ByteArray) : flagB s true = (false, ⟨#[]⟩, true) := by unfold flagB; simp [numB_bad]
theorem numB_short (s : ByteArray) (m : Nat) (h : s.size < m) : numB s false (m : Int) = (0, ⟨#[]⟩, true) := by
  unfold numB
  split
  · rfl
  · rw [bytesB_far (by omega)]; rfl
theorem flagB_empty : flagB ⟨#[]⟩ false = (false, ⟨#[]⟩, true) := by
  have h : numB ⟨#[]⟩ false ((1 : Nat) : Int) = (0, ⟨#[]⟩, true) := numB_short _ _ (by decide)
  have h' : numB ⟨#[]⟩ false 1 = (0, ⟨#[]⟩, true) := h
  unfold flagB
  rw [h']
  simp

theorem cut_app (a b : ByteArray) (q : Nat) (h : a.size ≤ q) : (a ++ b).extract 0 q = a ++ b.extract 0 (q - a.size) := by
  rw [ByteArray.extract_append, Nat.zero_sub]
  congr 1
  have : a.extract 0 q = a.extract 0 a.size := by
    apply Go.WideShapes.bytes_inj
    rw [ByteArray.data_extract, ByteArray.data_extract, Array.toList_extract, Array.toList_extract]
    simp only [List.extract, Nat.sub_zero, List.drop_zero]
    have e : a.data.toList.length = a.size := by simp
    rw [List.take_of_length_le (by omega), List.take_of_length_le (by omega)]
  rw [this, ByteArray.extract_zero_size]

/-- What is cut is bad. -/
theorem cut_bad (A k q : Nat) (s : ByteArray) (fl : Bool) (hk : k < 8) (hA : A < 256 ^ (k + 1)) (hs : s.size ≤ 300) (L P : ByteArray)
    (hL : putB A (k + 1) ++ (putB s.size 2 ++ s) ++ isP fl = L) (hq : q < L.size) (hP : L.extract 0 q = P) (N : Nat × ByteArray × Bool) (T : ByteArray × ByteArray × Bool)
    (hN : numB P false ((k + 1 : Nat) : Int) = N) (hT : textB N.2.1 N.2.2 = T) : (flagB T.2.1 T.2.2).2 = (⟨#[]⟩, true) := by
  have hsz : L.size = (k + 1) + (2 + s.size) + 1 := by rw [← hL]; simp only [ByteArray.size_append, putB_size, isP_size]
  have hPs : P.size = q := by rw [← hP, ByteArray.size_extract]; omega
  by_cases h1 : q < k + 1
  · rw [numB_short P (k + 1) (by omega)] at hN
    subst hN
    rw [textB_bad] at hT
    subst hT
    rw [flagB_bad]
  · have eP : P = putB A (k + 1) ++ ((putB s.size 2 ++ s) ++ isP fl).extract 0 (q - (k + 1)) := by
      rw [← hP, ← hL, ByteArray.append_assoc, cut_app _ _ _ (by rw [putB_size]; omega), putB_size]
    rw [eP, numB_put A k _ hk hA] at hN
    subst hN
    by_cases h2 : q - (k + 1) < 2
    · have hb : textB (((putB s.size 2 ++ s) ++ isP fl).extract 0 (q - (k + 1))) false = (⟨#[]⟩, ⟨#[]⟩, true) := by
        unfold textB
        have := numB_short (((putB s.size 2 ++ s) ++ isP fl).extract 0 (q - (k + 1))) 2 (by rw [ByteArray.size_extract]; omega)
        rw [show (2 : Int) = ((2 : Nat) : Int) from rfl, this]
        exact bytesB_bad
      have hT' := hb.symm.trans hT
      subst hT'
      rw [flagB_bad]
    · have e2 : ((putB s.size 2 ++ s) ++ isP fl).extract 0 (q - (k + 1)) = putB s.size 2 ++ (s ++ isP fl).extract 0 (q - (k + 1) - 2) := by
        rw [ByteArray.append_assoc, cut_app _ _ _ (by rw [putB_size]; omega), putB_size]
      have h3 : ((s ++ isP fl).extract 0 (q - (k + 1) - 2)).size = q - (k + 1) - 2 := by rw [ByteArray.size_extract, ByteArray.size_append, isP_size]; omega
      have e3 : textB (((putB s.size 2 ++ s) ++ isP fl).extract 0 (q - (k + 1))) false = bytesB ((s ++ isP fl).extract 0 (q - (k + 1) - 2)) false (s.size : Int) := by
        unfold textB
        rw [e2, numB_two_put _ _ (by omega)]
      have hT' := e3.symm.trans hT
      by_cases h4 : q - (k + 1) - 2 < s.size
      · rw [bytesB_far (by omega)] at hT'
        subst hT'
        rw [flagB_bad]
      · rw [bytesB_ok (by omega)] at hT'
        subst hT'
        have h5 : ((s ++ isP fl).extract 0 (q - (k + 1) - 2)).extract s.size ((s ++ isP fl).extract 0 (q - (k + 1) - 2)).size = ⟨#[]⟩ := by
          apply Go.WideShapes.bytes_inj
          rw [h3, show q - (k + 1) - 2 = s.size by omega, ByteArray.data_extract, Array.toList_extract]
          simp [List.extract]
        rw [h5, flagB_empty]

end Go.Proofs.Ytjneagcomaljdaa
