/-
  Chapter 18: WaitAnew: its ways together.
-/
import Derived.Test.YtflalllbplcgbaaL4
namespace Go.Proofs.Ytflalllbplcgbaa
open Go.RowKit Go.Sort Go.Maps Go.Shelf

theorem anew_law (a c t io inn : Int) (w : World) (ha : 0 ≤ a ∧ a ≤ 65535) (hc : 0 ≤ c ∧ c ≤ 65535) (ht : Fits t) (hio : Fits io) (hin : Fits inn) :
    Calls Try.prog 6 #[.int .u16 a, .int .u16 c, .int .i64 t, .agg #[.int .i64 io, .int .i64 inn]] w fun e w' => e = .returned (.bool true) ∧ Below w.heap.size w w' := by
  rcases Int.lt_or_le t 0 with h0 | h0
  · cases he : eqId io inn 2 3 with
    | true =>
      obtain ⟨rfl, rfl⟩ := eqId_iff.1 he
      exact anew_neg_eq a c t w ha hc ht h0
    | false =>
      cases hr : rightB io inn with
      | true => exact anew_neg_new a c t io inn w ha hc ht h0 hio hin hr he
      | false => exact anew_neg_no a c t io inn w ha hc ht h0 hio hin hr he
  · cases he : eqId io inn 2 3 with
    | true =>
      obtain ⟨rfl, rfl⟩ := eqId_iff.1 he
      exact anew_pos_eq a c t w ha hc ht h0
    | false =>
      cases hr : rightB io inn with
      | true => exact anew_pos_new a c t io inn w ha hc ht h0 hio hin hr he
      | false => exact anew_pos_no a c t io inn w ha hc ht h0 hio hin hr he

end Go.Proofs.Ytflalllbplcgbaa
