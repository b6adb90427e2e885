/-
  Chapter 19: BeatMarks: the lists that come in are what the walk takes.
-/
import Derived.Test.YtonjpdidbgicgaaM6
import Derived.Test.YtonjpdidbgicgaaR2
import Derived.Deep.Matrix
namespace Go.Proofs.Ytonjpdidbgicgaa
open Go.RowKit Go.WideShapes Go.ChangeShapes Go.WideElems Go.Deep

theorem rows_of {H : Type} {enc : TypeId × Value → H} {w : World} {A : Option Addr} {len cap : Nat} {d : DataW H} {p : List MemPlace}
    (h : DataW.Trod enc Try.prog w 0 (fun _ => true) true 49 (.slice A len cap) d p) : Rows8 w A len ∧ len ≤ maxLen := by
  obtain ⟨fuel, hf⟩ := h
  rcases open_int_rows Try.underlying49 Try.underlying51 Try.underlying5 (by kernel_rfl) (by kernel_rfl) hf with ⟨hcs, _⟩ | ⟨a, len', cap', RA, L, C, Z, hcs, _, hl, hm, _, hrow⟩
  · simp only [Value.cells, List.cons.injEq, and_true, Value.slice.injEq] at hcs
    obtain ⟨rfl, rfl, rfl⟩ := hcs
    exact ⟨fun i hi => absurd hi (by omega), by simp [maxLen]⟩
  · simp only [Value.cells, List.cons.injEq, and_true, Value.slice.injEq] at hcs
    obtain ⟨rfl, rfl, rfl⟩ := hcs
    refine ⟨fun i hi => ?_, Nat.le_trans hl hm⟩
    obtain ⟨hz, _⟩ := hrow 0 (by omega)
    have hsp : a.spot = none := spot_none (a := a) (by simpa [Addr.add] using hz)
    have hae := addr_eta hsp
    generalize a.block = ab at hae
    generalize a.off = ao at hae
    subst hae
    obtain ⟨hc, hLC, hCm, hZ, hwf, hnil, hcell⟩ := hrow i (by omega)
    rw [add_row] at hc
    refine ⟨ab, ao, RA i, L i, C i, fun k => (Z i).getD k 0, rfl, World.block_lt_of_cell? w _ hc, hc, by unfold maxLen at hCm; omega, fun k hk => ?_⟩
    cases hR : RA i with
    | none => have := hnil hR; omega
    | some r =>
      have hcc := (hcell r hR).2
      have h0 := hcc 0 (by omega)
      have hsp : r.spot = none := spot_none (a := r) (by simpa [Addr.add] using h0)
      have hae := addr_eta hsp
      generalize r.block = rb at hae
      generalize r.off = ro at hae
      subst hae
      have hk2 := hcc k (by omega)
      rw [add_row] at hk2
      have hkz : k < (Z i).length := by omega
      have hw := hwf ((Z i).getD k 0) (by simp [List.getD, hkz])
      exact ⟨rb, ro, rfl, World.block_lt_of_cell? w _ hk2, hk2, Go.bounds_u8 hw⟩

end Go.Proofs.Ytonjpdidbgicgaa
