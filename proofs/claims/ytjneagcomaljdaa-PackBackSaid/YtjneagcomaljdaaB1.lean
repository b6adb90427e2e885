/-
  Chapter 2: PackBad walked.
-/
import Derived.Test.YtjneagcomaljdaaL1
namespace Go.Proofs.Ytjneagcomaljdaa
open Go.RowKit

theorem numB_bad (s : ByteArray) (m : Int) : numB s true m = (0, ⟨#[]⟩, true) := by
  unfold numB
  split
  · rfl
  · rw [bytesB_bad]; rfl
theorem numB_zero (s : ByteArray) (b : Bool) : numB s b 0 = (0, ⟨#[]⟩, true) := rfl
theorem textB_bad (s : ByteArray) : textB s true = (⟨#[]⟩, ⟨#[]⟩, true) := by
  unfold textB
  rw [numB_bad]
  exact bytesB_bad

theorem num0 (s : ByteArray) (w : World) (hs : s.size ≤ maxLen) : Calls Try.prog 8 #[rdV s false, .int .i64 0] w fun e w' => e = .returned (.tuple #[.int .u64 0, rdV ⟨#[]⟩ true]) ∧ Below w.heap.size w w' := by
  have := number_any s false 0 w hs
  rwa [numB_zero] at this
theorem numbad (m : Int) (w : World) : Calls Try.prog 8 #[rdV ⟨#[]⟩ true, .int .i64 m] w fun e w' => e = .returned (.tuple #[.int .u64 0, rdV ⟨#[]⟩ true]) ∧ Below w.heap.size w w' := by
  have := number_any ⟨#[]⟩ true m w (by decide)
  rwa [numB_bad] at this
theorem textbad (w : World) : Calls Try.prog 10 #[rdV ⟨#[]⟩ true] w fun e w' => e = .returned (.tuple #[.string ⟨#[]⟩, rdV ⟨#[]⟩ true]) ∧ Below w.heap.size w w' := by
  have := text_any ⟨#[]⟩ true w (by decide)
  rwa [textB_bad] at this
theorem flagbad (w : World) : Calls Try.prog 12 #[rdV ⟨#[]⟩ true] w fun e w' => e = .returned (.tuple #[.bool false, rdV ⟨#[]⟩ true]) ∧ Below w.heap.size w w' := by
  have h : flagB ⟨#[]⟩ true = (false, ⟨#[]⟩, true) := by unfold flagB; simp [numB_bad]
  have := flag_any ⟨#[]⟩ true w (by decide)
  rwa [h] at this
theorem bytesbad (m : Int) (w : World) : Calls Try.prog 14 #[rdV ⟨#[]⟩ true, .int .i64 m] w fun e w' => e = .returned (.tuple #[.string ⟨#[]⟩, rdV ⟨#[]⟩ true]) ∧ Below w.heap.size w w' := by
  have := bytes_any ⟨#[]⟩ true m w (by decide)
  rwa [bytesB_bad] at this
theorem donebad (w : World) : Calls Try.prog 16 #[rdV ⟨#[]⟩ true] w fun e w' => e = .returned (.bool false) ∧ Below w.heap.size w w' := done_any ⟨#[]⟩ true w

set_option maxHeartbeats 2000000 in
theorem bad_ok (s : ByteArray) (m : Int) (y : Nat) (w : World) (hs : s.size ≤ 140737488351232) (hy : y < 256) (f : Bool) (t : ByteArray) (hts : (t.toList == s.toList) = true) (hf : f = ((y : Int) == 1)) (hy1 : (y : Int) ≤ 1)
    (cF : ∀ W, Calls Try.prog 12 #[rdV (strOfNums [(y : Int)] ++ s) false] W fun e W' => e = .returned (.tuple #[.bool f, rdV t false]) ∧ Below W.heap.size W W') :
    Calls Try.prog 6 #[.string s, .int .i64 m, .int .u8 y] w fun e w' => e = .returned (.bool true) ∧ Below w.heap.size w w' := by
  have hny0 : ¬ ((1 : Int) < y) := by omega
  have HNY := hide hny0
  clear hny0
  have CF := hide cF
  clear cF
  have hlen : (strOfNums [(y : Int)]).size + s.size ≤ 9223372036854775807 := by rw [strOfNums_size]; simp only [List.length_cons, List.length_nil]; omega
  go_enter Try.func6, Try.ntmps6
  go_wp2_with fail
  refine (examples_any _).mono ?_
  rintro e w0 ⟨rfl, hb0⟩
  have B0 := hide hb0
  clear hb0
  go_wp2_with fail
  refine (num0 s _ (by unfold maxLen; omega)).mono ?_
  rintro e w1 ⟨rfl, hb1⟩
  have B1 := hide (B0.out.trans (hb1.mono B0.out.size))
  clear hb1 B0
  go_wp2_with fail
  refine (numbad m _).mono ?_
  rintro e w2 ⟨rfl, hb2⟩
  have B2 := hide (after_alloc B1.out hb2).1
  have K1 := hide (after_alloc B1.out hb2).2
  clear hb2 B1
  go_wp2_with fail
  refine (textbad _).mono ?_
  rintro e w3 ⟨rfl, hb3⟩
  have B3 := hide (after_alloc B2.out hb3).1
  have K2 := hide (after_alloc B2.out hb3).2
  have K1' := hide ((K1.out.alloc _).below hb3 (by have := K1.out.lt; simp; omega))
  clear hb3 B2 K1
  go_wp2_with fail
  refine (flagbad _).mono ?_
  rintro e w4 ⟨rfl, hb4⟩
  have B4 := hide (after_alloc B3.out hb4).1
  have K3 := hide (after_alloc B3.out hb4).2
  have K1 := hide ((K1'.out.alloc _).below hb4 (by have := K1'.out.lt; simp; omega))
  have K2' := hide ((K2.out.alloc _).below hb4 (by have := K2.out.lt; simp; omega))
  clear hb4 B3 K1' K2
  go_wp2_with fail
  refine (bytesbad m _).mono ?_
  rintro e w5 ⟨rfl, hb5⟩
  have B5 := hide (after_alloc B4.out hb5).1
  have K4 := hide (after_alloc B4.out hb5).2
  have K1' := hide ((K1.out.alloc _).below hb5 (by have := K1.out.lt; simp; omega))
  have K2 := hide ((K2'.out.alloc _).below hb5 (by have := K2'.out.lt; simp; omega))
  have K3' := hide ((K3.out.alloc _).below hb5 (by have := K3.out.lt; simp; omega))
  clear hb5 B4 K1 K2' K3
  have hconv : (convert 45 9 (Value.slice (some { block := w5.heap.size + 1, off := 0 }) 1 1)).run Try.prog ((w5.alloc (.cells (#[.string ⟨#[]⟩, .bool true] : Array Value) 23)).alloc (.cells (#[.int .u8 y] : Array Value) 5)) = .ok (.string (strOfNums [(y : Int)])) ((w5.alloc (.cells (#[.string ⟨#[]⟩, .bool true] : Array Value) 23)).alloc (.cells (#[.int .u8 y] : Array Value) 5)) := by
    refine run_convert_bytes_arg (P := Try.prog) _ 45 5 rfl rfl (w5.heap.size + 1) 0 1 1 [(y : Int)] rfl (fun i hi => ?_) 9 rfl
    obtain rfl : i = 0 := by omega
    have h := (Blk.new (w5.alloc (.cells (#[.string ⟨#[]⟩, .bool true] : Array Value) 23)) 5 #[.int .u8 y]).cell 0
    rw [World.size_alloc] at h
    exact h
  go_wp2_with fail
  refine (CF.out _).mono ?_
  rintro e w6 ⟨rfl, hb6⟩
  have hx : Below w.heap.size w w6 ∧ Blk w6 w5.heap.size 23 #[.string ⟨#[]⟩, .bool true] := after_alloc B5.out (Below.trans ((Below.refl _ _).alloc (Nat.le_refl _) _) (hb6.mono (by simp)))
  have B6 := hide hx.1
  have K5 := hide hx.2
  have up : ∀ {g : Nat} {cs : Array Value}, Blk w5 g 23 cs → Blk w6 g 23 cs := fun h => ((h.alloc _).alloc _).below hb6 (by have := h.lt; simp; omega)
  have k1 := up K1'.out
  have k2 := up K2.out
  have k3 := up K3'.out
  have k4 := up K4.out
  clear hb6 B5 K1' K2 K3' K4 hx hconv up
  have a1 := (k1.cell 1).trans rfl
  have a2 := (k2.cell 1).trans rfl
  have a3 := (k3.cell 1).trans rfl
  have a4 := (k4.cell 1).trans rfl
  have a5 := (K5.out.cell 1).trans rfl
  have a50 := (K5.out.cell 0).trans rfl
  have l1 := k1.lt
  have l2 := k2.lt
  have l3 := k3.lt
  have l4 := k4.lt
  have l5 := K5.out.lt
  clear k1 k2 k3 k4
  go_wp2_with fail
  refine (donebad _).mono ?_
  rintro e w7 ⟨rfl, hb7⟩
  have hx := after_alloc B6.out hb7
  have B7 := hide hx.1
  have K6 := hx.2
  clear hb7 B6 K5 l1 l2 l3 l4 l5 a1 a2 a3 a4 a5 a50 hx
  have a6 := (K6.cell 0).trans rfl
  have a7 := (K6.cell 1).trans rfl
  clear K6
  go_wp2_with fail
  have hny := HNY.out
  exact bodyPost_ret (v := .bool true) (by simp [results, Try.results6, go_sem, hny]) rfl ⟨rfl, B7.out⟩

set_option maxHeartbeats 2000000 in
theorem bad_no (s : ByteArray) (m : Int) (y : Nat) (w : World) (hs : s.size ≤ 140737488351232) (hy : y < 256) (f : Bool) (t : ByteArray) (hf : f = false) (hy1 : (1 : Int) < y)
    (cF : ∀ W, Calls Try.prog 12 #[rdV (strOfNums [(y : Int)] ++ s) false] W fun e W' => e = .returned (.tuple #[.bool f, rdV t true]) ∧ Below W.heap.size W W') :
    Calls Try.prog 6 #[.string s, .int .i64 m, .int .u8 y] w fun e w' => e = .returned (.bool true) ∧ Below w.heap.size w w' := by
  have hny0 : ¬ ((y : Int) = 1) := by omega
  have HNY := hide hny0
  clear hny0
  have CF := hide cF
  clear cF
  have hlen : (strOfNums [(y : Int)]).size + s.size ≤ 9223372036854775807 := by rw [strOfNums_size]; simp only [List.length_cons, List.length_nil]; omega
  go_enter Try.func6, Try.ntmps6
  go_wp2_with fail
  refine (examples_any _).mono ?_
  rintro e w0 ⟨rfl, hb0⟩
  have B0 := hide hb0
  clear hb0
  go_wp2_with fail
  refine (num0 s _ (by unfold maxLen; omega)).mono ?_
  rintro e w1 ⟨rfl, hb1⟩
  have B1 := hide (B0.out.trans (hb1.mono B0.out.size))
  clear hb1 B0
  go_wp2_with fail
  refine (numbad m _).mono ?_
  rintro e w2 ⟨rfl, hb2⟩
  have B2 := hide (after_alloc B1.out hb2).1
  have K1 := hide (after_alloc B1.out hb2).2
  clear hb2 B1
  go_wp2_with fail
  refine (textbad _).mono ?_
  rintro e w3 ⟨rfl, hb3⟩
  have B3 := hide (after_alloc B2.out hb3).1
  have K2 := hide (after_alloc B2.out hb3).2
  have K1' := hide ((K1.out.alloc _).below hb3 (by have := K1.out.lt; simp; omega))
  clear hb3 B2 K1
  go_wp2_with fail
  refine (flagbad _).mono ?_
  rintro e w4 ⟨rfl, hb4⟩
  have B4 := hide (after_alloc B3.out hb4).1
  have K3 := hide (after_alloc B3.out hb4).2
  have K1 := hide ((K1'.out.alloc _).below hb4 (by have := K1'.out.lt; simp; omega))
  have K2' := hide ((K2.out.alloc _).below hb4 (by have := K2.out.lt; simp; omega))
  clear hb4 B3 K1' K2
  go_wp2_with fail
  refine (bytesbad m _).mono ?_
  rintro e w5 ⟨rfl, hb5⟩
  have B5 := hide (after_alloc B4.out hb5).1
  have K4 := hide (after_alloc B4.out hb5).2
  have K1' := hide ((K1.out.alloc _).below hb5 (by have := K1.out.lt; simp; omega))
  have K2 := hide ((K2'.out.alloc _).below hb5 (by have := K2'.out.lt; simp; omega))
  have K3' := hide ((K3.out.alloc _).below hb5 (by have := K3.out.lt; simp; omega))
  clear hb5 B4 K1 K2' K3
  have hconv : (convert 45 9 (Value.slice (some { block := w5.heap.size + 1, off := 0 }) 1 1)).run Try.prog ((w5.alloc (.cells (#[.string ⟨#[]⟩, .bool true] : Array Value) 23)).alloc (.cells (#[.int .u8 y] : Array Value) 5)) = .ok (.string (strOfNums [(y : Int)])) ((w5.alloc (.cells (#[.string ⟨#[]⟩, .bool true] : Array Value) 23)).alloc (.cells (#[.int .u8 y] : Array Value) 5)) := by
    refine run_convert_bytes_arg (P := Try.prog) _ 45 5 rfl rfl (w5.heap.size + 1) 0 1 1 [(y : Int)] rfl (fun i hi => ?_) 9 rfl
    obtain rfl : i = 0 := by omega
    have h := (Blk.new (w5.alloc (.cells (#[.string ⟨#[]⟩, .bool true] : Array Value) 23)) 5 #[.int .u8 y]).cell 0
    rw [World.size_alloc] at h
    exact h
  go_wp2_with fail
  refine (CF.out _).mono ?_
  rintro e w6 ⟨rfl, hb6⟩
  have hx : Below w.heap.size w w6 ∧ Blk w6 w5.heap.size 23 #[.string ⟨#[]⟩, .bool true] := after_alloc B5.out (Below.trans ((Below.refl _ _).alloc (Nat.le_refl _) _) (hb6.mono (by simp)))
  have B6 := hide hx.1
  have K5 := hide hx.2
  have up : ∀ {g : Nat} {cs : Array Value}, Blk w5 g 23 cs → Blk w6 g 23 cs := fun h => ((h.alloc _).alloc _).below hb6 (by have := h.lt; simp; omega)
  have k1 := up K1'.out
  have k2 := up K2.out
  have k3 := up K3'.out
  have k4 := up K4.out
  clear hb6 B5 K1' K2 K3' K4 hx hconv up
  have a1 := (k1.cell 1).trans rfl
  have a2 := (k2.cell 1).trans rfl
  have a3 := (k3.cell 1).trans rfl
  have a4 := (k4.cell 1).trans rfl
  have a5 := (K5.out.cell 1).trans rfl
  have a50 := (K5.out.cell 0).trans rfl
  have l1 := k1.lt
  have l2 := k2.lt
  have l3 := k3.lt
  have l4 := k4.lt
  have l5 := K5.out.lt
  clear k1 k2 k3 k4
  go_wp2_with fail
  refine (donebad _).mono ?_
  rintro e w7 ⟨rfl, hb7⟩
  have hx := after_alloc B6.out hb7
  have B7 := hide hx.1
  have K6 := hx.2
  clear hb7 B6 K5 l1 l2 l3 l4 l5 a1 a2 a3 a4 a5 a50 hx
  have a6 := (K6.cell 0).trans rfl
  have a7 := (K6.cell 1).trans rfl
  clear K6
  go_wp2_with fail
  have hny := HNY.out
  exact bodyPost_ret (v := .bool true) (by simp [results, Try.results6, go_sem, hny]) rfl ⟨rfl, B7.out⟩

theorem strOf_size (l : List Int) (s : ByteArray) : (strOfNums l ++ s).size = l.length + s.size := by rw [ByteArray.size_append, strOfNums_size]

theorem numB_head (y : Nat) (hy : y < 256) (s : ByteArray) : numB (strOfNums [(y : Int)] ++ s) false 1 = (y, s, false) := by
  have e1 : (strOfNums [(y : Int)]).size = 1 := rfl
  have h1 : bytesB (strOfNums [(y : Int)] ++ s) false ((1 : Nat) : Int) = (strOfNums [(y : Int)], s, false) := by
    rw [bytesB_ok (by rw [strOf_size]; simp)]
    rw [ByteArray.extract_append_eq_left (by rw [e1]), ByteArray.extract_append_eq_right (by rw [e1]) (by rw [ByteArray.size_append])]
  unfold numB
  rw [if_neg (by omega)]
  have h1' : bytesB (strOfNums [(y : Int)] ++ s) false 1 = (strOfNums [(y : Int)], s, false) := h1
  rw [h1']
  have h2 : leN (strOfNums [(y : Int)]).data.toList = y := by
    rw [strOfNums_data]
    simp [leN]
    omega
  rw [h2]

theorem flagB_head (y : Nat) (hy : y < 256) (s : ByteArray) : flagB (strOfNums [(y : Int)] ++ s) false = if 1 < y then (false, ⟨#[]⟩, true) else (y == 1, s, false) := by
  unfold flagB
  rw [numB_head y hy s]
  simp

theorem bad_law (s : ByteArray) (m : Int) (y : Int) (w : World) (hs : s.size ≤ 140737488351232) (hy : 0 ≤ y ∧ y < 256) :
    Calls Try.prog 6 #[.string s, .int .i64 m, .int .u8 y] w fun e w' => e = .returned (.bool true) ∧ Below w.heap.size w w' := by
  obtain ⟨y, rfl⟩ := Int.eq_ofNat_of_zero_le hy.1
  have hm : (strOfNums [(y : Int)] ++ s).size ≤ maxLen := by rw [strOf_size]; simp only [List.length_cons, List.length_nil, maxLen]; omega
  have hf := flagB_head y (by omega) s
  by_cases h : 1 < y
  · rw [if_pos h] at hf
    refine bad_no s m y w hs (by omega) false ⟨#[]⟩ rfl (by omega) fun W => ?_
    have := flag_any (strOfNums [(y : Int)] ++ s) false W hm
    rwa [hf] at this
  · rw [if_neg h] at hf
    refine bad_ok s m y w hs (by omega) (y == 1) s (beq_self_eq_true _) (by rw [Bool.eq_iff_iff]; simp; omega) (by omega) fun W => ?_
    have := flag_any (strOfNums [(y : Int)] ++ s) false W hm
    rwa [hf] at this

end Go.Proofs.Ytjneagcomaljdaa
