/-
  Chapter 05: cmp.Compare, walked; what Order asks of two; the stable sort of at most 20.
-/
import Derived.Test.YteciaffioiiceabB
import Derived.Test.YteciaffioiiceabLI
import Derived.Test.YteciaffioiiceabK2
import Derived.Deep.RegionHeld3
namespace Go.Proofs.Yteciaffioiiceab
open Go.RowKit Go.Sort Go.Lib

def cmpZ (a b : Int) : Int := if a < b then -1 else if b < a then 1 else 0

set_option maxHeartbeats 400000 in
theorem isnan_any (a : Int) (w : World) : Calls Try.prog 16 #[.int .u64 a] w fun e w' => e = .returned (.bool false) ∧ w = w' := by
  go_enter Try.func16, Try.ntmps16
  go_wp2
  go_ret
  exact ⟨by simp, rfl⟩

set_option maxHeartbeats 400000 in
theorem compare_any (a b : Int) (w : World) : Calls Try.prog 13 #[.int .u64 a, .int .u64 b] w fun e w' => e = .returned (.int .i64 (cmpZ a b)) ∧ w = w' := by
  have h : (a < b ∧ cmpZ a b = -1) ∨ (b ≤ a ∧ b < a ∧ cmpZ a b = 1) ∨ (a = b ∧ cmpZ a b = 0) := by
    unfold cmpZ
    rcases Int.lt_trichotomy a b with h | h | h
    · left; exact ⟨h, if_pos h⟩
    · right; right; exact ⟨h, by rw [if_neg (by omega), if_neg (by omega)]⟩
    · right; left; exact ⟨by omega, h, by rw [if_neg (by omega), if_pos h]⟩
  rcases h with ⟨h, e⟩ | ⟨h1, h, e⟩ | ⟨h, e⟩
  · rw [e]
    clear e
    go_enter Try.func13, Try.ntmps13
    go_wp2_with (go_at_call 16; refine (isnan_any _ _).mono ?_; rintro e w' ⟨rfl, rfl⟩)
    go_ret
    exact ⟨rfl, rfl⟩
  · rw [e]
    clear e
    go_enter Try.func13, Try.ntmps13
    go_wp2_with (go_at_call 16; refine (isnan_any _ _).mono ?_; rintro e w' ⟨rfl, rfl⟩)
    go_ret
    exact ⟨rfl, rfl⟩
  · rw [e]
    subst h
    clear e
    have h1 : ¬ a < a := by omega
    go_enter Try.func13, Try.ntmps13
    go_wp2_with (go_at_call 16; refine (isnan_any _ _).mono ?_; rintro e w' ⟨rfl, rfl⟩)
    go_ret
    exact ⟨rfl, rfl⟩

theorem compare_q (a b : Int) (V : World) : Calls Try.prog 13 #[.int .u64 a, .int .u64 b] V fun e w' => e = .returned (.int .i64 (cmpZ a b)) ∧ ∃ q, w' = V.drewN q :=
  (compare_any a b V).mono fun _ _ ⟨h, k⟩ => ⟨h, 0, by rw [← k]; rfl⟩

/-- How far one is from the other, where the program reckons it. -/
def farI (a b c d : Nat) : Int := (farB a b c d).getD 0
def FarOk (a b c d : Nat) : Prop := isNum a = true ∧ isNum b = true ∧ isNum c = true ∧ isNum d = true ∧ farB a b c d = some (farI a b c d)
theorem far_q (a b c d : Nat) (V : World) (h : FarOk a b c d) : Calls Try.prog 8 #[.complex .f64 a b, .complex .f64 c d] V fun e w' => e = .returned (.int .u64 (farI a b c d)) ∧ ∃ q, w' = V.drewN q :=
  (far_any a b c d _ V h.1 h.2.1 h.2.2.1 h.2.2.2.1 h.2.2.2.2).mono fun _ _ ⟨h, k⟩ => ⟨h, 0, by rw [← k]; rfl⟩

set_option maxHeartbeats 1000000 in
theorem closure_any (gf gl ab len c : Nat) (x y : Nat) (f1 f2 x1 x2 y1 y2 : Nat) (w : World)
    (h0 : w.cell? ⟨gf, 0, none⟩ = some (.complex .f64 f1 f2)) (h1 : w.cell? ⟨gl, 0, none⟩ = some (.slice (some ⟨ab, 0, none⟩) len c))
    (hx : x < len) (hy : y < len) (cx : w.cell? ⟨ab, x, none⟩ = some (.complex .f64 x1 x2)) (cy : w.cell? ⟨ab, y, none⟩ = some (.complex .f64 y1 y2))
    (ix : FarOk f1 f2 x1 x2) (iy : FarOk f1 f2 y1 y2) :
    Calls Try.prog 12 #[.int .i64 (x : Int), .int .i64 (y : Int), .pointer (some ⟨gf, 0, none⟩), .pointer (some ⟨gl, 0, none⟩)] w fun e w' => e = .returned (.int .i64 (cmpZ (farI f1 f2 x1 x2) (farI f1 f2 y1 y2))) ∧ ∃ q, w' = w.drewN q := by
  have k1 : (x : Int) < len := by omega
  have k2 : (y : Int) < len := by omega
  have k3 : (0 : Int) ≤ x := by omega
  have k4 : (0 : Int) ≤ y := by omega
  go_enter Try.func12, Try.ntmps12
  go_wp2_with fail
  go_quiet ((first
    | (go_at_call 8; exact Calls.quiet_of (far_q _ _ _ _ _ (by assumption)))
    | (go_at_call 13; exact Calls.quiet_of (compare_q _ _ _))))
  go_wp2_with fail
  go_ret
  exact ⟨rfl, _, rfl⟩

end Go.Proofs.Yteciaffioiiceab
