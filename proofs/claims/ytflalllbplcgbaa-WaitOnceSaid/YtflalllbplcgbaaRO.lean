/-
  Chapter 18: a slice of bytes that comes in is what the walk takes.
-/
import Derived.Test.YtflalllbplcgbaaL10
import Derived.Test.YtflalllbplcgbaaR2
namespace Go.Proofs.Ytflalllbplcgbaa
open Go.RowKit Go.WideShapes Go.ChangeShapes Go.WideElems Go.Deep

theorem bytes_of {H : Type} {enc : TypeId × Value → H} {w : World} {base : Nat} {v : Value} {d : DataW H} {p : List MemPlace}
    (hv : Value.okWide Try.prog w .any base 58 v) (h : DataW.Trod enc Try.prog w 0 (fun _ => true) true 58 v d p) :
    ∃ (A : Option Addr) (n c : Nat) (zs : List Int), v = .slice A n c ∧ n ≤ c ∧ c ≤ 9223372036854775807 ∧ Reads w w.heap.size 1 A n (zs.map (.int .u8)) ∧ ∀ k, 0 ≤ zs.getD k 0 ∧ zs.getD k 0 ≤ 255 := by
  obtain ⟨A, n, c, rfl⟩ := okWide_slice Try.underlying58 hv
  obtain ⟨fuel, hf⟩ := h
  obtain ⟨A', n', c', zs, e, hle, hmx, hlen, hrd, hwf⟩ := reads_ints Try.underlying58 Try.underlying5 (by kernel_rfl) hf
  injection e with e1 e2 e3
  subst e1 e2 e3
  refine ⟨A, n, c, zs, rfl, hle, by unfold maxLen at hmx; omega, hrd, fun k => ?_⟩
  rcases Nat.lt_or_ge k zs.length with hk | hk
  · have : zs.getD k 0 = zs[k] := by simp [List.getD, hk]
    rw [this]
    exact Go.bounds_u8 (hwf _ (List.getElem_mem hk))
  · have : zs.getD k 0 = 0 := by simp [List.getD, hk]
    rw [this]
    omega

end Go.Proofs.Ytflalllbplcgbaa
