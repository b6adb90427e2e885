/-
  Chapter 2: reading the next number, walked through the document's text.
-/
import Derived.Test.YtjneagcomaljdaaW2
namespace Go.Proofs.Ytjneagcomaljdaa
open Go.RowKit

theorem or_low (L b : Nat) (hL : L < 72057594037927936) (hb : b < 256) :
    bits .or .u64 (IntKind.u64.wrap ((L : Int) * 256)) (IntKind.u64.wrap (b : Int)) = ((b + 256 * L : Nat) : Int) := by
  have e : (L : Int) * 256 = ((L * 256 : Nat) : Int) := by rw [Int.natCast_mul]; rfl
  have e2 : IntKind.u64.wrap (b : Int) = (b : Int) := IntWalk.u64_in _ (by omega)
  rw [e2, e, IntWalk.u64_in _ (by omega), u64_or_nat _ _ (by omega) (by omega)]
  have h3 := Nat.shiftLeft_add_eq_or_of_lt (i := 8) (b := b) (by omega) L
  rw [Nat.shiftLeft_eq] at h3
  have : (2 : Nat) ^ 8 = 256 := rfl
  rw [this] at h3
  rw [← h3]
  congr 1
  omega

theorem drop_byte (t : ByteArray) (k : Nat) (h : k < t.size) : t.data.toList.drop k = t[k] :: t.data.toList.drop (k + 1) := by
  rw [List.drop_eq_getElem_cons (by simpa using h)]
  rfl

theorem leN_drop (t : ByteArray) (k : Nat) (h : k < t.size) : leN (t.data.toList.drop k) = t[k].toNat + 256 * leN (t.data.toList.drop (k + 1)) := by
  rw [drop_byte t k h]; rfl

theorem leN_drop_lt (t : ByteArray) (k : Nat) (h : k < t.size) (ht : t.size ≤ 8) : leN (t.data.toList.drop (k + 1)) < 72057594037927936 := by
  have h1 := leN_lt (t.data.toList.drop (k + 1))
  have h2 : (t.data.toList.drop (k + 1)).length ≤ 7 := by
    rw [List.length_drop, Array.length_toList]
    have : t.data.size = t.size := rfl
    omega
  have h3 : 256 ^ (t.data.toList.drop (k + 1)).length ≤ 256 ^ 7 := Nat.pow_le_pow_right (by omega) h2
  have : (256 : Nat) ^ 7 = 72057594037927936 := rfl
  omega

set_option maxHeartbeats 1000000 in
theorem rnumber_in (s s' t : ByteArray) (bad bd : Bool) (m : Nat) (w : World) (h1 : 1 ≤ m) (h8 : m ≤ 8) (ht : t.size ≤ 8)
    (hB : ∀ W, Calls Try.prog 15 #[rdV s bad, .int .i64 m] W fun e W' => e = .returned (.tuple #[.string t, rdV s' bd]) ∧ Below W.heap.size W W') :
    Calls Try.prog 9 #[rdV s bad, .int .i64 m] w fun e w' => e = .returned (.tuple #[.int .u64 (leN t.data.toList), rdV s' bd]) ∧ Below w.heap.size w w' := by
  have HB := hide hB
  have g1 : (1 : Int) ≤ m := by omega
  have g2 : (m : Int) ≤ 8 := by omega
  clear hB
  go_enter Try.func9, Try.ntmps9
  go_wp2_with fail
  refine (HB.out _).mono ?_
  rintro e w1 ⟨rfl, hb1⟩
  have h0 : Blk w1 (w.heap.size + 1) 28 #[.string ⟨#[]⟩, .bool false] := by
    have h1 := Blk.new (w.alloc (.cells #[.string s, .bool bad] 28)) 28 #[.string ⟨#[]⟩, .bool false]
    rw [World.size_alloc] at h1
    exact h1.below hb1 (by simp)
  have b1 : Below w.heap.size w w1 := (((Below.refl _ _).alloc (Nat.le_refl _) _).alloc (by simp) _).trans (hb1.mono (by simp; omega))
  have hz : w.heap.size + 1 < w1.heap.size := by have := hb1.size; simp at this; omega
  have H0 := hide h0
  have B1 := hide b1
  clear h0 b1 hb1
  go_wp2_with fail
  have NB0 := hide (H0.out.alloc (.cells (#[.string s', .bool bd] : Array Value) 28))
  have NT0 : Hid (Blk (w1.alloc (.cells (#[.string s', .bool bd] : Array Value) 28)) w1.heap.size 28 #[.string s', .bool bd]) := hide (Blk.new _ _ _)
  have BL := hide (B1.out.alloc B1.out.size (.cells (#[.string s', .bool bd] : Array Value) 28))
  obtain ⟨W2, hW2⟩ : ∃ W2 : World, W2 = w1.alloc (.cells (#[.string s', .bool bd] : Array Value) 28) := ⟨_, rfl⟩
  rw [← hW2] at NB0 NT0 BL ⊢
  obtain ⟨g, hg⟩ : ∃ g : Nat, g = w1.heap.size := ⟨_, rfl⟩
  rw [← hg] at NT0 hz ⊢
  clear hW2 hg
  go_loopg [8, 9] (t.size + 1) (fun q n i wr => ∃ k : Nat, i = .int .i64 ((k : Int) - 1) ∧ k ≤ t.size ∧ q = k + 1 ∧ n = .int .u64 (leN (t.data.toList.drop k)) ∧ wr = W2)
  case atStart => exact ⟨t.size, rfl, by omega, rfl, by rw [List.drop_of_length_le (by rw [Array.length_toList]; exact Nat.le_refl _)]; rfl, rfl⟩
  case round =>
    obtain ⟨k, rfl, hk, rfl, rfl, rfl⟩ := hrel
    cases k with
    | succ j =>
      have hj : j < t.size := by omega
      have hj2 : (j : Int) < t.size := by omega
      have hor := or_low (leN (t.data.toList.drop (j + 1))) t[j].toNat (leN_drop_lt t j hj ht) t[j].toNat_lt
      rw [← leN_drop t j hj] at hor
      have ej : (((j + 1 : Nat) : Int) - 1) = (j : Int) := by omega
      rw [ej]
      have HOR := hide hor
      clear hor ej
      go_wp2_with fail
      go_roundg (j + 1)
      case measure => omega
      case rel => exact ⟨j, rfl, by omega, rfl, by rw [HOR.out], rfl⟩
    | zero =>
      simp only [List.drop_zero]
      have c0 := (NT0.out.cell 0).trans rfl
      have c1 := (NT0.out.cell 1).trans rfl
      have d0 := (NB0.out.cell 0).trans rfl
      have d1 := (NB0.out.cell 1).trans rfl
      have f0 := NB0.out.frozen 0
      have f1 := NB0.out.frozen 1
      have ez : (((0 : Nat) : Int) - 1) = -1 := rfl
      rw [ez]
      clear ez
      go_wp2_with fail
      refine wp_region_tail 3 mixed (by kernel_rfl) ?_
      simp only [List.take_succ_cons, List.take_zero, List.drop_succ_cons, List.drop_zero]
      repeat still_step
      refine wpStill_nil ?_
      go_wp2_with fail
      obtain ⟨W3, hW3⟩ : ∃ W3 : World, W3 = ((wr.setCell ⟨w.heap.size + 1, 0, none⟩ (Value.string s')).setCell ⟨w.heap.size + 1, 1, none⟩ (Value.bool bd)).drew := ⟨_, rfl⟩
      rw [← hW3]
      have nb3 : Blk W3 (w.heap.size + 1) 28 #[.string s', .bool bd] := by
        rw [hW3]
        exact Blk.drew ((NB0.out.set_ 0 _).set_ 1 _)
      have bl3 : Below w.heap.size w W3 := by
        rw [hW3]
        exact ((BL.out.setCell (by simp) _).setCell (by simp) _).drew
      have e0 := (nb3.cell 0).trans rfl
      have e1 := (nb3.cell 1).trans rfl
      clear hW3 c0 c1 d0 d1 f0 f1
      exact bodyPost_ret (v := .tuple #[.int .u64 (leN t.data.toList), rdV s' bd]) (by simp [results, Try.results9, go_sem, e0, e1]) rfl ⟨rfl, bl3⟩

set_option maxHeartbeats 1000000 in
theorem rnumber_out1 (s : ByteArray) (bad : Bool) (m : Int) (w : World) (h : m < 1) :
    Calls Try.prog 9 #[rdV s bad, .int .i64 m] w fun e w' => e = .returned (.tuple #[.int .u64 0, rdV ⟨#[]⟩ true]) ∧ Below w.heap.size w w' := by
  go_enter Try.func9, Try.ntmps9
  go_wp2_with fail
  exact bodyPost_ret (v := .tuple #[.int .u64 0, rdV ⟨#[]⟩ true]) (by simp [results, Try.results9, go_sem]) rfl ⟨rfl, ((Below.refl _ _).alloc (Nat.le_refl _) _).alloc (by simp) _⟩

set_option maxHeartbeats 1000000 in
theorem rnumber_out2 (s : ByteArray) (bad : Bool) (m : Int) (w : World) (h : 8 < m) :
    Calls Try.prog 9 #[rdV s bad, .int .i64 m] w fun e w' => e = .returned (.tuple #[.int .u64 0, rdV ⟨#[]⟩ true]) ∧ Below w.heap.size w w' := by
  have h2 : 1 ≤ m := by omega
  go_enter Try.func9, Try.ntmps9
  go_wp2_with fail
  exact bodyPost_ret (v := .tuple #[.int .u64 0, rdV ⟨#[]⟩ true]) (by simp [results, Try.results9, go_sem]) rfl ⟨rfl, ((Below.refl _ _).alloc (Nat.le_refl _) _).alloc (by simp) _⟩

theorem rnumber_any (s : ByteArray) (bad : Bool) (m : Int) (w : World) (hs : s.size ≤ maxLen) :
    Calls Try.prog 9 #[rdV s bad, .int .i64 m] w fun e w' => e = .returned (.tuple #[.int .u64 (numB s bad m).1, rdV (numB s bad m).2.1 (numB s bad m).2.2]) ∧ Below w.heap.size w w' := by
  by_cases h1 : m < 1
  · have e : numB s bad m = (0, ⟨#[]⟩, true) := if_pos (.inl h1)
    rw [e]
    exact rnumber_out1 s bad m w h1
  · by_cases h2 : 8 < m
    · have e : numB s bad m = (0, ⟨#[]⟩, true) := if_pos (.inr h2)
      rw [e]
      exact rnumber_out2 s bad m w h2
    · have e : numB s bad m = (leN (bytesB s bad m).1.data.toList, (bytesB s bad m).2) := if_neg (by omega)
      rw [e]
      obtain ⟨k, rfl⟩ : ∃ k : Nat, m = k := ⟨m.toNat, by omega⟩
      exact rnumber_in s _ _ bad _ k w (by omega) (by omega) (bytesB_size s bad k (by omega)) (fun W => rbytes_any s bad k W hs)

end Go.Proofs.Ytjneagcomaljdaa
