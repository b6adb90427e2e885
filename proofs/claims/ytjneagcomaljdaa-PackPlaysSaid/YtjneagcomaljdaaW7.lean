/-
  Chapter 2: the document's side of a number's bytes; a text's and a flag's bytes.
-/
import Derived.Test.YtjneagcomaljdaaW6
namespace Go.Proofs.Ytjneagcomaljdaa
open Go.RowKit

theorem byte_info : (Try.prog.info? 5).map (fun i => (i.zero, i.size, i.bytes)) = some (some (.int .u8 0), 1, 1) := by kernel_rfl

set_option maxHeartbeats 1000000 in
theorem rput_in (n : Nat) (m : Nat) (w : World) (h1 : 1 ≤ m) (h8 : m ≤ 8) :
    Calls Try.prog 21 #[.int .u64 n, .int .i64 m] w fun e w' => e = .returned (.string (putB n m)) ∧ Below w.heap.size w w' := by
  obtain ⟨i0, hi0, hz0, hz1, hz2⟩ := info_parts byte_info
  have g1 : (1 : Int) ≤ m := by omega
  have g2 : (m : Int) ≤ 8 := by omega
  go_enter Try.func21, Try.ntmps21
  go_wp2_with fail
  go_loopg [5, 6] (m + 1) (fun q v i wr => ∃ k : Nat, i = .int .i64 k ∧ k ≤ m ∧ q = m + 1 - k ∧ wr.ownsRow w.heap.size 5 1 v k ((digits n k).map (.int .u8)) ∧ Below w.heap.size w wr)
  case atStart => exact ⟨0, rfl, by omega, by omega, World.ownsRow_nil _ _ _ _, Below.refl _ _⟩
  case round =>
    obtain ⟨k, rfl, hk, rfl, hown, hb⟩ := hrel
    by_cases hlt : k < m
    · have hlt2 : (k : Int) < m := by omega
      have OW := hide hown
      have HB := hide hb
      clear hown hb
      go_wp2_with (at_builtin; refine wpList_append_own _ rfl (.tmp 18) (.tmp 24) _ rfl w.heap.size 5 i0 _ 1 1 Try.underlying45 hi0 hz0 hz1 hz2 rfl (by omega) u5 k ((digits n k).map (.int .u8)) rfl (OW.out.alloc _) ⟨wr.heap.size, 0, none⟩ 1 1 [.int .u8 ((n : Int) / 2 ^ (8 * k) % 256)] rfl rfl (cell_one_new _ _ _) (ints_oneCell .u8 [(n : Int) / 2 ^ (8 * k) % 256]) (by simp only [maxLen]; omega) (by omega) (by have := HB.out.size; simp; omega) ?_; intro v1 w1 hown1 hgr _)
      have hb1 := hide ((HB.out.alloc HB.out.size _).grown hgr (by have := HB.out.size; simp; omega) (fun g hg => (OW.out.lt g hg).1))
      have hown2 : w1.ownsRow w.heap.size 5 1 v1 (k + 1) ((digits n (k + 1)).map (.int .u8)) := by
        rw [digits_snoc, List.map_append]; exact hown1
      have O2 := hide hown2
      clear hown1 hown2 hgr
      go_wp2_with fail
      go_roundg (m + 1 - (k + 1))
      case measure => omega
      case rel => exact ⟨k + 1, by go_num, by omega, rfl, O2.out, hb1.out⟩
    · obtain rfl : k = m := by omega
      have hconv : (convert 45 9 u5).run Try.prog wr = .ok (.string (putB n k)) wr := by
        rcases hown.2 with ⟨rfl, h0⟩ | ⟨g, cap, cur, rfl, _, hg, hc, _, hs, ht⟩
        · omega
        · refine run_convert_bytes_arg (P := Try.prog) wr 45 5 rfl rfl g 0 k cap (digits n k) (digits_len n k) (fun i hi => ?_) 9 rfl
          have h2 : cur.toList[i]? = some (.int .u8 ((digits n k).getD i 0)) := by
            have h3 : (cur.toList.take (k * 1))[i]? = cur.toList[i]? := List.getElem?_take_of_lt (by omega)
            rw [← h3, ht]
            simp [List.getD, digits_at n k i hi]
          rw [Nat.zero_add]
          simp only [World.cell?, hg]
          simpa using h2
      have OW := hide hown
      have HB := hide hb
      clear hown hb
      go_wp2_with fail
      exact bodyPost_ret (v := .string (putB n k)) (by simp [results, Try.results21, go_sem]) rfl ⟨rfl, HB.out⟩

/-- A number's bytes, any size. -/
def numP (n : Nat) (m : Int) : ByteArray := if m < 1 ∨ 8 < m then ⟨#[]⟩ else putB n m.toNat

theorem numP_size (n : Nat) (m : Int) : (numP n m).size ≤ 8 := by
  unfold numP
  split
  · exact Nat.zero_le _
  · rw [putB_size]; omega

theorem put_any (n : Nat) (m : Int) (w : World) (hn : n < 18446744073709551616) :
    Calls Try.prog 20 #[.int .u64 n, .int .i64 m] w fun e w' => e = .returned (.string (numP n m)) ∧ Below w.heap.size w w' := by
  unfold numP
  by_cases h : m < 1 ∨ 8 < m
  · rw [if_pos h]; exact put_bad n m w h
  · rw [if_neg h]
    have := put_in n m.toNat w (by omega) (by omega) hn
    rwa [show ((m.toNat : Nat) : Int) = m by omega] at this

theorem rput_any (n : Nat) (m : Int) (w : World) :
    Calls Try.prog 21 #[.int .u64 n, .int .i64 m] w fun e w' => e = .returned (.string (numP n m)) ∧ Below w.heap.size w w' := by
  unfold numP
  by_cases h : m < 1 ∨ 8 < m
  · rw [if_pos h]; exact rput_bad n m w h
  · rw [if_neg h]
    have := rput_in n m.toNat w (by omega) (by omega)
    rwa [show ((m.toNat : Nat) : Int) = m by omega] at this

/-- A text behind its size. -/
def strP (s : ByteArray) : ByteArray × Bool := if 65535 < s.size then (⟨#[]⟩, false) else (numP s.size 2 ++ s, true)

set_option maxHeartbeats 1000000 in
theorem str_any (s : ByteArray) (w : World) (hs : s.size ≤ maxLen) :
    Calls Try.prog 18 #[.string s] w fun e w' => e = .returned (.tuple #[.string (strP s).1, .bool (strP s).2]) ∧ Below w.heap.size w w' := by
  unfold maxLen at hs
  by_cases h : 65535 < s.size
  · have h2 : (65535 : Int) < s.size := by omega
    have e : strP s = (⟨#[]⟩, false) := if_pos h
    rw [e]
    clear h
    go_enter Try.func18, Try.ntmps18
    go_wp2_with fail
    exact bodyPost_ret (v := .tuple #[.string ⟨#[]⟩, .bool false]) (by simp [results, Try.results18, go_sem]) rfl ⟨rfl, Below.refl _ _⟩
  · have h2 : (s.size : Int) ≤ 65535 := by omega
    have e : strP s = (numP s.size 2 ++ s, true) := if_neg h
    rw [e]
    have hl : (numP s.size 2).size + s.size ≤ 9223372036854775807 := by have := numP_size s.size 2; omega
    clear h
    go_enter Try.func18, Try.ntmps18
    go_wp2_with fail
    refine (put_any s.size 2 w (by omega)).mono ?_
    rintro e w1 ⟨rfl, hb⟩
    have HB := hide hb
    clear hb
    go_wp2_with fail
    exact bodyPost_ret (v := .tuple #[.string (numP s.size 2 ++ s), .bool true]) (by simp [results, Try.results18, go_sem]) rfl ⟨rfl, HB.out⟩

set_option maxHeartbeats 1000000 in
theorem rstr_any (s : ByteArray) (w : World) (hs : s.size ≤ maxLen) :
    Calls Try.prog 19 #[.string s] w fun e w' => e = .returned (.tuple #[.string (strP s).1, .bool (strP s).2]) ∧ Below w.heap.size w w' := by
  unfold maxLen at hs
  by_cases h : 65535 < s.size
  · have h2 : (65535 : Int) < s.size := by omega
    have e : strP s = (⟨#[]⟩, false) := if_pos h
    rw [e]
    clear h
    go_enter Try.func19, Try.ntmps19
    go_wp2_with fail
    exact bodyPost_ret (v := .tuple #[.string ⟨#[]⟩, .bool false]) (by simp [results, Try.results19, go_sem]) rfl ⟨rfl, Below.refl _ _⟩
  · have h2 : (s.size : Int) ≤ 65535 := by omega
    have e : strP s = (numP s.size 2 ++ s, true) := if_neg h
    rw [e]
    have hl : (numP s.size 2).size + s.size ≤ 9223372036854775807 := by have := numP_size s.size 2; omega
    clear h
    go_enter Try.func19, Try.ntmps19
    go_wp2_with fail
    refine (rput_any s.size 2 w).mono ?_
    rintro e w1 ⟨rfl, hb⟩
    have HB := hide hb
    clear hb
    go_wp2_with fail
    exact bodyPost_ret (v := .tuple #[.string (numP s.size 2 ++ s), .bool true]) (by simp [results, Try.results19, go_sem]) rfl ⟨rfl, HB.out⟩

/-- A flag's byte. -/
def isP (b : Bool) : ByteArray := if b then ⟨#[1]⟩ else ⟨#[0]⟩
theorem isP_num (b : Bool) : numP (if b then 1 else 0) 1 = isP b := by cases b <;> decide

set_option maxHeartbeats 1000000 in
theorem is_any (b : Bool) (w : World) :
    Calls Try.prog 22 #[.bool b] w fun e w' => e = .returned (.string (isP b)) ∧ Below w.heap.size w w' := by
  rw [← isP_num]
  cases b with
  | true =>
    go_enter Try.func22, Try.ntmps22
    go_wp2_with fail
    refine (put_any 1 1 w (by omega)).mono ?_
    rintro e w1 ⟨rfl, hb⟩
    have HB := hide hb
    clear hb
    go_wp2_with fail
    exact bodyPost_ret (v := .string (numP 1 1)) (by simp [results, Try.results22, go_sem]) rfl ⟨rfl, HB.out⟩
  | false =>
    go_enter Try.func22, Try.ntmps22
    go_wp2_with fail
    refine (put_any 0 1 w (by omega)).mono ?_
    rintro e w1 ⟨rfl, hb⟩
    have HB := hide hb
    clear hb
    go_wp2_with fail
    exact bodyPost_ret (v := .string (numP 0 1)) (by simp [results, Try.results22, go_sem]) rfl ⟨rfl, HB.out⟩

set_option maxHeartbeats 1000000 in
theorem ris_any (b : Bool) (w : World) :
    Calls Try.prog 23 #[.bool b] w fun e w' => e = .returned (.string (isP b)) ∧ Below w.heap.size w w' := by
  cases b with
  | true =>
    go_enter Try.func23, Try.ntmps23
    go_wp2_with fail
    exact bodyPost_ret (v := .string ⟨#[1]⟩) (by simp [results, Try.results23, go_sem]) rfl ⟨rfl, Below.refl _ _⟩
  | false =>
    go_enter Try.func23, Try.ntmps23
    go_wp2_with fail
    exact bodyPost_ret (v := .string ⟨#[0]⟩) (by simp [results, Try.results23, go_sem]) rfl ⟨rfl, Below.refl _ _⟩

end Go.Proofs.Ytjneagcomaljdaa
