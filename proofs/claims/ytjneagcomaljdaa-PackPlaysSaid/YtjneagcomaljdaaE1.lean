/-
  Chapter 2: the chapter's examples.
-/
import Derived.Test.YtjneagcomaljdaaW7
namespace Go.Proofs.Ytjneagcomaljdaa
open Go.RowKit

theorem ex1 (w : World) : Calls Try.prog 18 #[.string ⟨#[97, 98]⟩] w fun e w' => e = .returned (.tuple #[.string ⟨#[2, 0, 97, 98]⟩, .bool true]) ∧ Below w.heap.size w w' := by
  have h : strP ⟨#[97, 98]⟩ = (⟨#[2, 0, 97, 98]⟩, true) := by decide +kernel
  have := str_any ⟨#[97, 98]⟩ w (by decide)
  rwa [h] at this
theorem ex2 (w : World) : Calls Try.prog 8 #[rdV ⟨#[2, 1, 120]⟩ false, .int .i64 2] w fun e w' => e = .returned (.tuple #[.int .u64 258, rdV ⟨#[120]⟩ false]) ∧ Below w.heap.size w w' := by
  have h : numB ⟨#[2, 1, 120]⟩ false 2 = (258, ⟨#[120]⟩, false) := by decide +kernel
  have := number_any ⟨#[2, 1, 120]⟩ false 2 w (by decide)
  rwa [h] at this
theorem ex3 (w : World) : Calls Try.prog 12 #[rdV ⟨#[1]⟩ false] w fun e w' => e = .returned (.tuple #[.bool true, rdV ⟨#[]⟩ false]) ∧ Below w.heap.size w w' := by
  have h : flagB ⟨#[1]⟩ false = (true, ⟨#[]⟩, false) := by decide +kernel
  have := flag_any ⟨#[1]⟩ false w (by decide)
  rwa [h] at this
theorem ex4 (w : World) : Calls Try.prog 12 #[rdV ⟨#[2]⟩ false] w fun e w' => e = .returned (.tuple #[.bool false, rdV ⟨#[]⟩ true]) ∧ Below w.heap.size w w' := by
  have h : flagB ⟨#[2]⟩ false = (false, ⟨#[]⟩, true) := by decide +kernel
  have := flag_any ⟨#[2]⟩ false w (by decide)
  rwa [h] at this
theorem ex5 (w : World) : Calls Try.prog 10 #[rdV ⟨#[2, 0, 97, 98, 99]⟩ false] w fun e w' => e = .returned (.tuple #[.string ⟨#[97, 98]⟩, rdV ⟨#[99]⟩ false]) ∧ Below w.heap.size w w' := by
  have h : textB ⟨#[2, 0, 97, 98, 99]⟩ false = (⟨#[97, 98]⟩, ⟨#[99]⟩, false) := by decide +kernel
  have := text_any ⟨#[2, 0, 97, 98, 99]⟩ false w (by decide)
  rwa [h] at this
theorem ex6 (w : World) : Calls Try.prog 20 #[.int .u64 258, .int .i64 2] w fun e w' => e = .returned (.string ⟨#[2, 1]⟩) ∧ Below w.heap.size w w' := by
  have h : numP 258 2 = ⟨#[2, 1]⟩ := by decide +kernel
  have := put_any 258 2 w (by decide)
  rwa [h] at this
theorem ex7 (w : World) : Calls Try.prog 16 #[rdV ⟨#[]⟩ false] w fun e w' => e = .returned (.bool true) ∧ Below w.heap.size w w' := by
  have h : (!false && (⟨#[]⟩ : ByteArray).toList.isEmpty) = true := by decide +kernel
  have := done_any ⟨#[]⟩ false w
  rwa [h] at this
theorem ex8 (w : World) : Calls Try.prog 22 #[.bool true] w fun e w' => e = .returned (.string ⟨#[1]⟩) ∧ Below w.heap.size w w' := is_any true w
theorem ex9 (w : World) : Calls Try.prog 22 #[.bool false] w fun e w' => e = .returned (.string ⟨#[0]⟩) ∧ Below w.heap.size w w' := is_any false w

theorem after_alloc {w0 w w' : World} {cs : Array Value} {t : TypeId} (hb : Below w0.heap.size w0 w) (h : Below (w.alloc (.cells cs t)).heap.size (w.alloc (.cells cs t)) w') :
    Below w0.heap.size w0 w' ∧ Blk w' w.heap.size t cs := by
  have h2 := hb.size
  exact ⟨(hb.alloc hb.size _).trans (h.mono (by simp; omega)), (Blk.new w t cs).below h (by simp)⟩

set_option maxHeartbeats 1000000 in
theorem examples_any (w : World) : Calls Try.prog 7 #[] w fun e w' => e = .returned (.bool true) ∧ Below w.heap.size w w' := by
  go_enter Try.func7, Try.ntmps7
  go_wp2_with fail
  refine (ex1 _).mono ?_
  rintro e w1 ⟨rfl, hb1⟩
  have B1 := hide hb1
  clear hb1
  go_wp2_with fail
  refine (ex2 _).mono ?_
  rintro e w2 ⟨rfl, hb2⟩
  have B2 := hide (B1.out.trans (hb2.mono B1.out.size))
  clear hb2 B1
  go_wp2_with fail
  refine (ex3 _).mono ?_
  rintro e w3 ⟨rfl, hb3⟩
  have B3 := hide (after_alloc B2.out hb3).1
  have K2 := hide (after_alloc B2.out hb3).2
  clear hb3 B2
  go_wp2_with fail
  refine (ex4 _).mono ?_
  rintro e w4 ⟨rfl, hb4⟩
  have B4 := hide (after_alloc B3.out hb4).1
  have K3 := hide (after_alloc B3.out hb4).2
  have K2' := hide ((K2.out.alloc _).below hb4 (by have := K2.out.lt; simp; omega))
  clear hb4 B3 K2
  go_wp2_with fail
  refine (ex5 _).mono ?_
  rintro e w5 ⟨rfl, hb5⟩
  have B5 := hide (after_alloc B4.out hb5).1
  have K4 := hide (after_alloc B4.out hb5).2
  have K2 := hide ((K2'.out.alloc _).below hb5 (by have := K2'.out.lt; simp; omega))
  have K3' := hide ((K3.out.alloc _).below hb5 (by have := K3.out.lt; simp; omega))
  clear hb5 B4 K2' K3
  go_wp2_with fail
  refine (ex6 _).mono ?_
  rintro e w6 ⟨rfl, hb6⟩
  have B6 := hide (after_alloc B5.out hb6).1
  have K5 := (after_alloc B5.out hb6).2
  have K4' := ((K4.out.alloc _).below hb6 (by have := K4.out.lt; simp; omega))
  have K2' := ((K2.out.alloc _).below hb6 (by have := K2.out.lt; simp; omega))
  have K3 := ((K3'.out.alloc _).below hb6 (by have := K3'.out.lt; simp; omega))
  clear hb6 B5 K2 K3' K4
  have k2 := (K2'.cell 0).trans rfl
  have k30 := (K3.cell 0).trans rfl
  have k31 := (K3.cell 1).trans rfl
  have k4 := (K4'.cell 1).trans rfl
  have k5 := (K5.cell 0).trans rfl
  have H4 := hide K4'
  have H5 := hide K5
  clear K2' K3 K4' K5
  go_wp2_with fail
  refine (ex7 _).mono ?_
  rintro e w7 ⟨rfl, hb7⟩
  have B7 := hide (B6.out.trans (hb7.mono B6.out.size))
  have K4' := H4.out.below hb7 H4.out.lt
  have K5 := H5.out.below hb7 H5.out.lt
  clear hb7 k2 k30 k31 k4 k5 B6 H4 H5
  have k4 := (K4'.cell 1).trans rfl
  have k5 := (K5.cell 0).trans rfl
  clear K4' K5
  go_wp2_with fail
  refine (ex8 _).mono ?_
  rintro e w8 ⟨rfl, hb8⟩
  have B8 := hide (B7.out.trans (hb8.mono B7.out.size))
  clear hb8 B7
  go_wp2_with fail
  refine (ex9 _).mono ?_
  rintro e w9 ⟨rfl, hb9⟩
  have B9 := hide (B8.out.trans (hb9.mono B8.out.size))
  clear hb9 B8
  go_wp2_with fail
  go_ret
  exact ⟨rfl, B9.out⟩

end Go.Proofs.Ytjneagcomaljdaa
