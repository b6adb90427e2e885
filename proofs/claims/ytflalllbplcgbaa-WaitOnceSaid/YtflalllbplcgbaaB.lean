/-
  Chapter 18: what waits, in memory: a map of instances behind a struct of one cell. Keys; what is laid, struck, read.
-/
import Derived.Test.YtflalllbplcgbaaA
import Derived.Test.YtflalllbplcgbaaM
import Derived.DeepKeys5
import Derived.KernelRfl
namespace Go.Proofs.Ytflalllbplcgbaa
open Go.RowKit Go.Sort Go.Maps

theorem laidOut : laidOutB Try.prog = true := by kernel_rfl
theorem id_law : Keyed Try.prog 36 := Keyed.of_law (deep_law_gate laidOut (by decide +kernel) (by decide +kernel) (by kernel_rfl) (by kernel_rfl))

def keyV (o n : Int) : Value := .agg #[.int .i64 o, .int .i64 n]
def Fits (x : Int) : Prop := -9223372036854775808 ≤ x ∧ x ≤ 9223372036854775807
theorem fits_wf {x : Int} (h : Fits x) : (Lit.int .i64 x).wf = true := WalkArith.wf_i64 h

theorem id_keyType : Try.prog.keyType 36 = true := by kernel_rfl
theorem id_cells : Try.prog.cellsOf 36 = 2 := by kernel_rfl
theorem int_cells : Try.prog.cellsOf 3 = 1 := by kernel_rfl
theorem types_some : ∃ n, Try.prog.types.size = n + 1 := by
  have h : 0 < Try.prog.types.size := by decide +kernel
  exact ⟨Try.prog.types.size - 1, by omega⟩

theorem id_key (o n : Int) (ho : Fits o) (hn : Fits n) : ∃ l, keyOf Try.prog 36 (keyV o n) = some l := by
  obtain ⟨N, hN⟩ := types_some
  refine ⟨.string (keyBytes [.int .i64 o, .int .i64 n]), ?_⟩
  unfold keyOf
  rw [Try.underlying36]
  simp only [id_keyType, keyV, Value.formed, Try.underlying36, id_cells, Value.cells, hN]
  simp [Program.keyLits, Try.underlying36, id_cells, int_cells, Try.underlying3, fits_wf ho, fits_wf hn]

end Go.Proofs.Ytflalllbplcgbaa
