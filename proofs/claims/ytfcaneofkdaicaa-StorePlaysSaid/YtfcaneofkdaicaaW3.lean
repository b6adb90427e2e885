/-
  Chapter 16: Known: walked.
-/
import Derived.Test.YtfcaneofkdaicaaW2
namespace Go.Proofs.Ytfcaneofkdaicaa
open Go.RowKit Go.Sort Go.Maps

set_option maxRecDepth 100000 in
set_option maxHeartbeats 1000000 in
theorem known_yes {w0 w : World} {F : List Nat} {B bv bl bd : Nat} {acc : List Cm} (h : SS w0 w F B bv bl bd acc) (c s : Int) (hc : Fits c) (hs : FitsU s) (y : Rp) (hy : knownOf acc c s = some y) :
    Calls Try.prog 17 #[.pointer (some ⟨B, 0, none⟩), .int .i64 c, .int .u32 s] w fun e w' => e = .returned (.tuple #[y.val, .int .i64 0]) ∧ Gr w w' := by
  have hW := h.alloc (.cells #[.int .i64 0, .int .u32 0, .bool false, .string ⟨#[]⟩] 38)
  have hl := hW.lookD c s hc hs
  rw [hy] at hl
  simp only [Option.getD_some, Option.isSome_some] at hl
  have c2 := hW.c2
  clear h hc hs hy hW
  unfold Rp.val at hl ⊢
  unfold askV at hl
  go_enter Try.func17, Try.ntmps17
  go_wp2_with fail
  exact bodyPost_ret (v := .tuple #[.agg #[.int .i64 y.c, .int .u32 y.s, .bool y.f, .string y.v], .int .i64 0]) (by simp [results, Try.results17, go_sem]) rfl ⟨rfl, ((Gr.refl w).alloc _).alloc _⟩

set_option maxRecDepth 100000 in
set_option maxHeartbeats 1000000 in
theorem known_no {w0 w : World} {F : List Nat} {B bv bl bd : Nat} {acc : List Cm} (h : SS w0 w F B bv bl bd acc) (c s : Int) (hc : Fits c) (hs : FitsU s) (hy : knownOf acc c s = none) :
    Calls Try.prog 17 #[.pointer (some ⟨B, 0, none⟩), .int .i64 c, .int .u32 s] w fun e w' => e = .returned (.tuple #[Rp.zero.val, .int .i64 5]) ∧ Gr w w' := by
  have hW := h.alloc (.cells #[.int .i64 0, .int .u32 0, .bool false, .string ⟨#[]⟩] 38)
  have hl := hW.lookD c s hc hs
  rw [hy] at hl
  simp only [Option.getD_none, Option.isSome_none] at hl
  have c2 := hW.c2
  clear h hc hs hy hW
  unfold Rp.val Rp.zero at hl ⊢
  unfold askV at hl
  go_enter Try.func17, Try.ntmps17
  go_wp2_with fail
  exact bodyPost_ret (v := .tuple #[.agg #[.int .i64 0, .int .u32 0, .bool false, .string ⟨#[]⟩], .int .i64 5]) (by simp [results, Try.results17, go_sem]) rfl ⟨rfl, ((Gr.refl w).alloc _).alloc _⟩

end Go.Proofs.Ytfcaneofkdaicaa
