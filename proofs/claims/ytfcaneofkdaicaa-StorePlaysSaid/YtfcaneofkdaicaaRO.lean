/-
  Chapter 16: the wishes that come in are what the walk takes.
-/
import Derived.Test.YtfcaneofkdaicaaW16
import Derived.Lib.SmallJoins
namespace Go.Proofs.Ytfcaneofkdaicaa
open Go.RowKit Go.WideShapes Go.ChangeShapes Go.WideElems Go.Deep

theorem wish_struct : ∃ f0 f1 : Field, Try.prog.underlying 35 = some (.struct #[f0, f1]) ∧ (f0.type = 33 ∧ f0.offset = 0) ∧ (f1.type = 4 ∧ f1.offset = 5) :=
  ⟨_, _, Try.underlying35, ⟨rfl, rfl⟩, ⟨rfl, rfl⟩⟩
theorem cmd_struct : ∃ f0 f1 f2 f3 f4 : Field, Try.prog.underlying 33 = some (.struct #[f0, f1, f2, f3, f4]) ∧ (f0.type = 3 ∧ f0.offset = 0) ∧ (f1.type = 3 ∧ f1.offset = 1) ∧ (f2.type = 23 ∧ f2.offset = 2) ∧ (f3.type = 9 ∧ f3.offset = 3) ∧ (f4.type = 9 ∧ f4.offset = 4) :=
  ⟨_, _, _, _, _, Try.underlying33, ⟨rfl, rfl⟩, ⟨rfl, rfl⟩, ⟨rfl, rfl⟩, ⟨rfl, rfl⟩, ⟨rfl, rfl⟩⟩
theorem wc3 : Try.prog.cellsOf 3 = 1 := by kernel_rfl
theorem wc4 : Try.prog.cellsOf 4 = 1 := by kernel_rfl
theorem wc9 : Try.prog.cellsOf 9 = 1 := by kernel_rfl
theorem wc23 : Try.prog.cellsOf 23 = 1 := by kernel_rfl
theorem wc33 : Try.prog.cellsOf 33 = 5 := by kernel_rfl
theorem wc35 : Try.prog.cellsOf 35 = 6 := by kernel_rfl

section
variable {H : Type} {enc : TypeId × Value → H} {P : Program} {w : World} {base : Nat} {spare : Nat → Bool} {held : Bool}
/-- A struct of five fields, by its cells. -/
theorem trod_struct5 {t : TypeId} {f0 f1 f2 f3 f4 : Field} {fuel : Nat} {cs : List Value} {x : DataW H × List MemPlace} (ht : P.underlying t = some (.struct #[f0, f1, f2, f3, f4])) (h : DataW.trod enc P w base spare held fuel t cs = some x) :
    ∃ (y0 y1 y2 y3 y4 : DataW H × List MemPlace) (n : Nat),
      DataW.trod enc P w base spare held n f0.type ((cs.drop f0.offset).take (P.cellsOf f0.type)) = some y0 ∧ DataW.trod enc P w base spare held n f1.type ((cs.drop f1.offset).take (P.cellsOf f1.type)) = some y1 ∧
      DataW.trod enc P w base spare held n f2.type ((cs.drop f2.offset).take (P.cellsOf f2.type)) = some y2 ∧ DataW.trod enc P w base spare held n f3.type ((cs.drop f3.offset).take (P.cellsOf f3.type)) = some y3 ∧
      DataW.trod enc P w base spare held n f4.type ((cs.drop f4.offset).take (P.cellsOf f4.type)) = some y4 := by
  obtain ⟨ys, n, _, _, _, hyl, hf⟩ := DataW.trod_struct ht h
  have hl : ys.length = 5 := hyl
  have g : ∀ j (hj : j < 5), ∃ y, ys[j]? = some y := fun j hj => ⟨ys[j], List.getElem?_eq_getElem (by omega)⟩
  obtain ⟨y0, h0⟩ := g 0 (by omega)
  obtain ⟨y1, h1⟩ := g 1 (by omega)
  obtain ⟨y2, h2⟩ := g 2 (by omega)
  obtain ⟨y3, h3⟩ := g 3 (by omega)
  obtain ⟨y4, h4⟩ := g 4 (by omega)
  exact ⟨y0, y1, y2, y3, y4, n, (hf 0 f0 rfl).trans h0, (hf 1 f1 rfl).trans h1, (hf 2 f2 rfl).trans h2, (hf 3 f3 rfl).trans h3, (hf 4 f4 rfl).trans h4⟩

theorem cmd_cells {fuel : Nat} {cs : List Value} {x : DataW H × List MemPlace} (h : DataW.trod enc Try.prog w base spare held fuel 33 cs = some x) (hl : cs.length = 5) :
    ∃ (o c s : Int) (k v : ByteArray), cs = [.int .i64 o, .int .i64 c, .int .u32 s, .string k, .string v] ∧ Cm.Fit ⟨o, c, s, k, v⟩ := by
  obtain ⟨g0, g1, g2, g3, g4, hg, ⟨u0, q0⟩, ⟨u1, q1⟩, ⟨u2, q2⟩, ⟨u3, q3⟩, ⟨u4, q4⟩⟩ := cmd_struct
  obtain ⟨z0, z1, z2, z3, z4, n, s0, s1, s2, s3, s4⟩ := trod_struct5 hg h
  rw [u0, q0, wc3] at s0
  rw [u1, q1, wc3] at s1
  rw [u2, q2, wc23] at s2
  rw [u3, q3, wc9] at s3
  rw [u4, q4, wc9] at s4
  match cs, hl with
  | [b0, b1, b2, b3, b4], _ =>
    simp only [List.drop_zero, List.drop_succ_cons, List.take_succ_cons, List.take_zero] at s0 s1 s2 s3 s4
    obtain ⟨o, e0, _, w0⟩ := DataW.trod_int Try.underlying3 s0
    obtain ⟨c, e1, _, w1⟩ := DataW.trod_int Try.underlying3 s1
    obtain ⟨s, e2, _, w2⟩ := DataW.trod_int Try.underlying23 s2
    obtain ⟨k, e3, _, w3⟩ := DataW.trod_string Try.underlying9 s3
    obtain ⟨v, e4, _, w4⟩ := DataW.trod_string Try.underlying9 s4
    simp only [List.cons.injEq, and_true] at e0 e1 e2 e3 e4
    subst e0 e1 e2 e3 e4
    exact ⟨o, c, s, k, v, rfl, ⟨Go.bounds_i64 w0, Go.bounds_i64 w1, Go.bounds_u32 w2, w3, w4⟩⟩
end

set_option maxRecDepth 100000 in
theorem wishes_of {H : Type} {enc : TypeId × Value → H} {w : World} {base : Nat} {v : Value} {d : DataW H} {p : List MemPlace}
    (hv : Value.okWide Try.prog w .any base 22 v) (h : DataW.Trod enc Try.prog w 0 (fun _ => true) true 22 v d p) :
    ∃ (A : Option Addr) (n c : Nat), v = .slice A n c ∧ n ≤ 9223372036854775807 ∧ Wishes w A n := by
  obtain ⟨A, len, cap, rfl⟩ := okWide_slice Try.underlying22 hv
  refine ⟨A, len, cap, rfl, ?_⟩
  obtain ⟨fuel, hf⟩ := h
  obtain ⟨f0, f1, he, ⟨t0, o0⟩, ⟨t1, o1⟩⟩ := wish_struct
  rcases open_slice Try.underlying22 hf with ⟨hcs, _⟩ | ⟨a, len', cap', m, n, D, Pl, hcs, _, hl, hm, hmm, _, hel⟩
  · simp only [Value.cells, List.cons.injEq, and_true, Value.slice.injEq] at hcs
    obtain ⟨rfl, rfl, rfl⟩ := hcs
    exact ⟨by omega, fun i hi => absurd hi (by omega)⟩
  · simp only [Value.cells, List.cons.injEq, and_true, Value.slice.injEq] at hcs
    obtain ⟨rfl, rfl, rfl⟩ := hcs
    simp only [if_true] at hmm
    refine ⟨by unfold maxLen at hm; omega, fun i hi => ?_⟩
    have one : ∀ i, i < len → ∃ (o c s : Int) (k v : ByteArray) (own : Bool),
        w.cell? (a.add (i * 6)) = some (.int .i64 o) ∧ w.cell? (a.add (i * 6 + 1)) = some (.int .i64 c) ∧ w.cell? (a.add (i * 6 + 2)) = some (.int .u32 s) ∧
        w.cell? (a.add (i * 6 + 3)) = some (.string k) ∧ w.cell? (a.add (i * 6 + 4)) = some (.string v) ∧ w.cell? (a.add (i * 6 + 5)) = some (.bool own) ∧ Cm.Fit ⟨o, c, s, k, v⟩ := by
      intro i hi
      obtain ⟨cs, hc, ht⟩ := hel i (by omega)
      rw [wc35] at hc
      obtain ⟨_, hcl, hat⟩ := World.cells?_some hc
      obtain ⟨ys, n1, _, _, _, hyl, hfl⟩ := DataW.trod_struct he ht
      have hl2 : ys.length = 2 := hyl
      have r0 := (hfl 0 f0 rfl).trans (List.getElem?_eq_getElem (show 0 < ys.length by omega))
      have r1 := (hfl 1 f1 rfl).trans (List.getElem?_eq_getElem (show 1 < ys.length by omega))
      rw [t0, o0, wc33] at r0
      rw [t1, o1, wc4] at r1
      match cs, hcl with
      | [b0, b1, b2, b3, b4, b5], _ =>
        simp only [List.drop_zero, List.drop_succ_cons, List.take_succ_cons, List.take_zero] at r0 r1
        obtain ⟨o, c, s, k, v, e, hfit⟩ := cmd_cells r0 rfl
        obtain ⟨own, e6, _⟩ := DataW.trod_bool Try.underlying4 r1
        simp only [List.cons.injEq, and_true] at e e6
        obtain ⟨rfl, rfl, rfl, rfl, rfl⟩ := e
        subst e6
        have hc' : ∀ j, j < 6 → w.cell? (a.add (i * 6 + j)) = [Value.int .i64 o, .int .i64 c, .int .u32 s, .string k, .string v, .bool own][j]? := fun j hj => by
          have := hat j hj
          rwa [Go.Deep.add_add] at this
        exact ⟨o, c, s, k, v, own, hc' 0 (by omega), hc' 1 (by omega), hc' 2 (by omega), hc' 3 (by omega), hc' 4 (by omega), hc' 5 (by omega), hfit⟩
    obtain ⟨_, _, _, _, _, _, hz, _⟩ := one 0 (by omega)
    have hsp : a.spot = none := spot_none (a := a) (by simpa [Addr.add] using hz)
    have hae := addr_eta hsp
    have hlt := World.block_lt_of_cell? w _ (one 0 (by omega)).choose_spec.choose_spec.choose_spec.choose_spec.choose_spec.choose_spec.1
    rw [block_of_add] at hlt
    generalize a.block = ab at hae hlt
    generalize a.off = ao at hae
    subst hae
    obtain ⟨o, c, s, k, v, own, c0, c1, c2, c3, c4, c5, hfit⟩ := one i hi
    rw [add_row] at c0 c1 c2 c3 c4 c5
    exact ⟨ab, ao, rfl, hlt, o, c, s, k, v, own, c0, c1, c2, c3, c4, c5, hfit⟩

set_option maxRecDepth 100000 in
theorem cmd_of {H : Type} {enc : TypeId × Value → H} {w : World} {base : Nat} {v : Value} {d : DataW H} {p : List MemPlace}
    (hv : Value.okWide Try.prog w .any base 33 v) (h : DataW.Trod enc Try.prog w 0 (fun _ => true) true 33 v d p) :
    ∃ x : Cm, v = .agg #[.int .i64 x.o, .int .i64 x.c, .int .u32 x.s, .string x.k, .string x.v] ∧ x.Fit := by
  obtain ⟨f0, f1, f2, f3, f4, he, _⟩ := cmd_struct
  obtain ⟨cs, rfl, hsz⟩ := okWide_struct he hv
  obtain ⟨fuel, hf⟩ := h
  obtain ⟨l⟩ := cs
  obtain ⟨o, c, s, k, v, e, hfit⟩ := cmd_cells (cs := l) hf (by rw [wc33] at hsz; exact hsz)
  subst e
  exact ⟨⟨o, c, s, k, v⟩, rfl, hfit⟩

end Go.Proofs.Ytfcaneofkdaicaa
