/-
  Who was heard is alive as long as is waited, and no longer; who was not heard never is, but itself: the law's walk.
-/
import Derived.Test.YtonjpdidbgicgaaW9
namespace Go.Proofs.Ytonjpdidbgicgaa
open Go.RowKit

def aliveSt (p h : Int) : BSt := heardS (heardS (BSt.init 5 2 p) 4 h) 4 (h / 2)

theorem aliveSt_ht (p h : Int) (h0 : 0 ≤ h) : (aliveSt p h).ht 4 = h ∧ (aliveSt p h).was 4 = true ∧ (aliveSt p h).was 3 = false ∧ (aliveSt p h).n = 5 ∧ (aliveSt p h).me = 2 ∧ (aliveSt p h).pat = p := by
  have e1 : heardB (BSt.init 5 2 p) 4 = true := by simp [heardB, inB, BSt.init]
  have e2 : heardB (heardS (BSt.init 5 2 p) 4 h) 4 = true := by simp [heardS, e1]; simp [heardB, inB, BSt.init]
  unfold aliveSt
  rw [heardS, if_pos e2, heardS, if_pos e1]
  refine ⟨?_, ?_, ?_, rfl, rfl, rfl⟩
  · simp only [upd, BSt.init]
    simp
    omega
  · simp [upd]
  · simp [upd, BSt.init]

theorem alive_four (p h t : Int) (h0 : 0 ≤ h) (hp : 1 ≤ p) : aliveB (aliveSt p h) 4 t = decide (t < h + p) := by
  obtain ⟨a, b, _, d, e, f⟩ := aliveSt_ht p h h0
  have k : Int.toNat 4 = 4 := rfl
  simp only [aliveB, inB, d, e, f, k, a, b]
  simp
  omega

theorem alive_three (p h t : Int) (h0 : 0 ≤ h) : aliveB (aliveSt p h) 3 t = false := by
  obtain ⟨_, _, c, d, e, _⟩ := aliveSt_ht p h h0
  have k : Int.toNat 3 = 3 := rfl
  simp [aliveB, inB, d, e, k, c]

theorem alive_two (p h t : Int) (h0 : 0 ≤ h) : aliveB (aliveSt p h) 2 t = true := by
  obtain ⟨_, _, _, _, e, _⟩ := aliveSt_ht p h h0
  simp [aliveB, e]

theorem alive_out (p h t : Int) (h0 : 0 ≤ h) (who : Int) (hw : who = 0 ∨ who = 6) : aliveB (aliveSt p h) who t = false := by
  obtain ⟨_, _, _, d, e, _⟩ := aliveSt_ht p h h0
  rcases hw with rfl | rfl <;> simp [aliveB, inB, d, e]

theorem heard_out (p h : Int) (h0 : 0 ≤ h) : heardB (aliveSt p h) 2 = false ∧ heardB (heardS (aliveSt p h) 2 h) 6 = false := by
  obtain ⟨_, _, _, d, e, _⟩ := aliveSt_ht p h h0
  have e2 : heardB (aliveSt p h) 2 = false := by simp [heardB, e]
  exact ⟨e2, by simp [heardS, e2]; simp [heardB, inB, d]⟩

set_option maxRecDepth 100000 in
set_option maxHeartbeats 2000000 in
theorem alive_law (p h t : Int) (w : World) (p0 : 0 ≤ p) (p1 : p ≤ 65535) (h0 : 0 ≤ h) (h1 : h ≤ 65535) (t0 : 0 ≤ t) (t1 : t ≤ 4294967295) :
    Calls Try.prog 4 #[.int .u16 p, .int .u16 h, .int .u32 t] w fun e w' => e = .returned (.bool true) ∧ Below w.heap.size w w' := by
  go_enter Try.func4, Try.ntmps4
  go_wp2_with fail
  refine (examples_any _).mono ?_
  rintro e w1 ⟨rfl, hb1⟩
  go_wp2_with fail
  refine (own_new 5 2 (1 + p) w _ (by simp [mayB]; omega) hb1).mono ?_
  rintro e w2 ⟨b, rfl, h2⟩
  clear hb1
  go_wp2_with fail
  refine (own_heard w _ b _ 4 h true h2 (by simp [heardB, inB, BSt.init]) (by omega) (by omega)).mono ?_
  rintro e w3 ⟨rfl, h3⟩
  clear h2
  go_wp2_with fail
  refine (own_heard w _ b _ 4 (h / 2) true h3 (by simp [heardS, heardB, inB, BSt.init]) (by omega) (by omega)).mono ?_
  rintro e w4 ⟨rfl, h4⟩
  clear h3
  have H4 : Own w w4 b (aliveSt (1 + p) h) := h4
  clear h4
  obtain ⟨r, hr⟩ : ∃ r : Bool, r = decide (t < h + (1 + p)) := ⟨_, rfl⟩
  have R := hide hr
  have hrr : decide (t < h + (1 + p)) = r := hr.symm
  clear hr
  have s1 : h + (1 + p) ≤ 18446744073709551615 := by omega
  have RR := hide hrr
  clear hrr
  go_wp2_with fail
  refine (own_alive w _ b _ 4 t r H4 (by rw [alive_four _ _ _ h0 (by omega)]; exact RR.out) (by omega) (by omega)).mono ?_
  rintro e w5 ⟨rfl, h5, n5, hw5⟩
  clear H4 hw5
  have hrr := RR.out
  have hbb : (r == r) = true := by simp
  go_wp2_with fail
  refine (own_alive w _ b _ 3 t false h5 (alive_three _ _ _ h0) (by omega) (by omega)).mono ?_
  rintro e w6 ⟨rfl, h6, n6, hw6⟩
  clear h5 hw6
  go_wp2_with fail
  refine (own_alive w _ b _ 2 t true h6 (alive_two _ _ _ h0) (by omega) (by omega)).mono ?_
  rintro e w7 ⟨rfl, h7, n7, hw7⟩
  clear h6 hw7
  go_wp2_with fail
  refine (own_alive w _ b _ 0 t false h7 (alive_out _ _ _ h0 0 (.inl rfl)) (by omega) (by omega)).mono ?_
  rintro e w8 ⟨rfl, h8, n8, hw8⟩
  clear h7 hw8
  go_wp2_with fail
  refine (own_alive w _ b _ 6 t false h8 (alive_out _ _ _ h0 6 (.inr rfl)) (by omega) (by omega)).mono ?_
  rintro e w9 ⟨rfl, h9, n9, hw9⟩
  clear h8 hw9
  go_wp2_with fail
  refine (own_heard w _ b _ 2 h false h9 (heard_out _ _ h0).1 (by omega) (by omega)).mono ?_
  rintro e w10 ⟨rfl, h10⟩
  clear h9
  go_wp2_with fail
  refine (own_heard w _ b _ 6 h false h10 (heard_out _ _ h0).2 (by omega) (by omega)).mono ?_
  rintro e w11 ⟨rfl, h11⟩
  clear h10
  go_wp2_with fail
  go_ret
  exact ⟨rfl, h11.bel⟩

end Go.Proofs.Ytonjpdidbgicgaa
