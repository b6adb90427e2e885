/-
  Chapter 05: the ring's places, in plain bits.
-/
import Derived.Test.YteciaffioiiceabA
namespace Go.Proofs.Yteciaffioiiceab
open Go.RowKit

def ringB (k : Nat) : Nat × Nat := (spinB (floatOfInt .f64 ((1 + k / 4 : Nat) : Int)) 0 (k % 4)).getD (0, 0)
def ceqB (p q : Nat × Nat) : Bool := eqB p.1 q.1 && eqB p.2 q.2

theorem ring_spin : ∀ k : Fin 64, spinB (floatOfInt .f64 ((1 + k.val / 4 : Nat) : Int)) 0 (k.val % 4) = some (ringB k.val) := by decide +kernel
theorem ring_num0 : ∀ k : Fin 64, isNum (floatOfInt .f64 ((1 + k.val / 4 : Nat) : Int)) = true := by decide +kernel
theorem ring_num : ∀ k : Fin 64, isNum (ringB k.val).1 = true ∧ isNum (ringB k.val).2 = true ∧ rightB (ringB k.val).1 (ringB k.val).2 = true := by decide +kernel
theorem zero_num : isNum 0 = true := by decide +kernel
theorem ring_ne : ∀ i : Fin 64, ∀ k : Fin 64, k.val < i.val → ceqB (ringB i.val) (ringB k.val) = false := by decide +kernel
theorem ring_turn : ∀ i : Fin 64, 0 < i.val % 4 → spinB (ringB (i.val - 1)).1 (ringB (i.val - 1)).2 1 = some (ringB i.val) ∧ ceqB (ringB i.val) (ringB i.val) = true := by decide +kernel
theorem ring_far : ∀ i : Fin 64, farB (ringB i.val).1 (ringB i.val).2 0 0 = some (((1 + i.val / 4) * (1 + i.val / 4) : Nat) : Int) := by decide +kernel

end Go.Proofs.Yteciaffioiiceab
