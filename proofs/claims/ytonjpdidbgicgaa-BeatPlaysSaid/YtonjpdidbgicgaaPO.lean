/-
  Chapter 19: BeatPlays: the deeds that come in are what the walk takes.
-/
import Derived.Test.YtonjpdidbgicgaaP8
import Derived.Test.YtonjpdidbgicgaaR2
namespace Go.Proofs.Ytonjpdidbgicgaa
open Go.RowKit Go.WideShapes Go.ChangeShapes Go.WideElems Go.Deep

theorem deed_struct : ∃ fs : Array Field, Try.prog.underlying 34 = some (.struct fs) ∧ oneCellFields Try.prog fs = true ∧ Try.prog.cellsOf 34 = fs.size ∧ fs.size = 6 ∧
    fs[0]?.map (·.type) = some 5 ∧ fs[1]?.map (·.type) = some 3 ∧ fs[2]?.map (·.type) = some 3 ∧ fs[3]?.map (·.type) = some 22 ∧ fs[4]?.map (·.type) = some 32 ∧ fs[5]?.map (·.type) = some 4 :=
  ⟨_, Try.underlying34, by kernel_rfl, by kernel_rfl, rfl, rfl, rfl, rfl, rfl, rfl, rfl⟩

theorem deeds_of {H : Type} {enc : TypeId × Value → H} {w : World} {A : Option Addr} {len cap : Nat} {d : DataW H} {p : List MemPlace}
    (h : DataW.Trod enc Try.prog w 0 (fun _ => true) true 23 (.slice A len cap) d p) : Deeds w A len ∧ len ≤ maxLen := by
  obtain ⟨fuel, hf⟩ := h
  obtain ⟨fs, he, hone, hC, h6, t0, t1, t2, t3, t4, t5⟩ := deed_struct
  rcases open_slice_fields Try.underlying23 he hone hC hf with ⟨hcs, _⟩ | ⟨a, len', cap', m, D, Pl, hcs, _, hl, hm, hmm, _, hel⟩
  · simp only [Value.cells, List.cons.injEq, and_true, Value.slice.injEq] at hcs
    obtain ⟨rfl, rfl, rfl⟩ := hcs
    exact ⟨fun i hi => absurd hi (by omega), by simp [maxLen]⟩
  · simp only [Value.cells, List.cons.injEq, and_true, Value.slice.injEq] at hcs
    obtain ⟨rfl, rfl, rfl⟩ := hcs
    simp only [if_true] at hmm
    refine ⟨fun i hi => ?_, Nat.le_trans hl hm⟩
    have fld : ∀ (i : Nat), i < len → ∀ (j t : Nat), fs[j]?.map (·.type) = some t → ∃ (v : Value) (y : DataW H × List MemPlace) (n : Nat), w.cell? (a.add (i * 6 + j)) = some v ∧ DataW.trod enc Try.prog w 0 (fun _ => true) true n t [v] = some y := by
      intro i hi j t hj
      obtain ⟨ys, n, _, _, _, hfl⟩ := hel i (by omega)
      obtain ⟨f, hf1, rfl⟩ := Option.map_eq_some_iff.1 hj
      obtain ⟨v, y, hc, _, ht⟩ := hfl j f hf1
      rw [h6] at hc
      exact ⟨v, y, n, hc, ht⟩
    obtain ⟨vz, _, _, hz, _⟩ := fld 0 (by omega) 0 5 t0
    have hsp : a.spot = none := spot_none (a := a) (by simpa [Addr.add] using hz)
    have hae := addr_eta hsp
    generalize a.block = ab at hae
    generalize a.off = ao at hae
    subst hae
    simp only [add_row] at fld
    obtain ⟨v0, _, n0, c0, r0⟩ := fld i hi 0 5 t0
    obtain ⟨v1, _, n1, c1, r1⟩ := fld i hi 1 3 t1
    obtain ⟨v2, _, n2, c2, r2⟩ := fld i hi 2 3 t2
    obtain ⟨v3, _, n3, c3, r3⟩ := fld i hi 3 22 t3
    obtain ⟨v4, _, n4, c4, r4⟩ := fld i hi 4 32 t4
    obtain ⟨v5, _, n5, c5, r5⟩ := fld i hi 5 4 t5
    obtain ⟨k, e0, _, w0⟩ := DataW.trod_int Try.underlying5 r0
    obtain ⟨who, e1, _, w1⟩ := DataW.trod_int Try.underlying3 r1
    obtain ⟨nn, e2, _, w2⟩ := DataW.trod_int Try.underlying3 r2
    obtain ⟨now, e3, _, w3⟩ := DataW.trod_int Try.underlying22 r3
    obtain ⟨MA, mn, mc, ml, e4, hle, hmx, _, hrd, _⟩ := reads_ints Try.underlying32 Try.underlying3 (by kernel_rfl) r4
    obtain ⟨nr, e5, _⟩ := DataW.trod_bool Try.underlying4 r5
    simp only [List.cons.injEq, and_true] at e0 e1 e2 e3 e5
    subst e0
    subst e1
    subst e2
    subst e3
    subst e4
    subst e5
    have hb := World.block_lt_of_cell? w _ c0
    exact ⟨ab, ao, rfl, hb, k, who, nn, now, MA, mn, mc, ml, nr, ⟨c0, c1, c2, c3, c4, c5, Go.bounds_u8 w0, Go.bounds_u64 w3, hrd, hle, by simpa [maxLen] using hmx⟩⟩

end Go.Proofs.Ytonjpdidbgicgaa
