/-
  Chapter 21: the deeds that come in are what the walk takes.
-/
import Derived.Test.YtioehmlaaimeaaaB2
import Derived.Test.YtioehmlaaimeaaaR2
import Derived.Lib.SmallJoins
namespace Go.Proofs.Ytioehmlaaimeaaa
open Go.RowKit Go.WideShapes Go.ChangeShapes Go.WideElems Go.Deep

/-- Each deed's cells, in their bounds. -/
def Deeds (w : World) (A : Option Addr) (len : Nat) : Prop :=
  ∀ i, i < len → ∃ ab ao, A = some ⟨ab, ao, none⟩ ∧ ab < w.heap.size ∧ ∃ (kd p : Int) (x : It) (near : Bool),
    w.cell? ⟨ab, ao + i * 7, none⟩ = some (.int .u8 kd) ∧ w.cell? ⟨ab, ao + i * 7 + 1, none⟩ = some (.int .i64 x.fr) ∧ w.cell? ⟨ab, ao + i * 7 + 2, none⟩ = some (.int .i64 x.to) ∧
    w.cell? ⟨ab, ao + i * 7 + 3, none⟩ = some (.string x.by_) ∧ w.cell? ⟨ab, ao + i * 7 + 4, none⟩ = some (.int .u64 x.at_) ∧ w.cell? ⟨ab, ao + i * 7 + 5, none⟩ = some (.int .i64 p) ∧ w.cell? ⟨ab, ao + i * 7 + 6, none⟩ = some (.bool near) ∧
    (0 ≤ kd ∧ kd ≤ 255) ∧ (-9223372036854775808 ≤ x.fr ∧ x.fr ≤ 9223372036854775807) ∧ (-9223372036854775808 ≤ x.to ∧ x.to ≤ 9223372036854775807) ∧ (0 ≤ x.at_ ∧ x.at_ < 18446744073709551616) ∧ x.by_.size ≤ maxLen

theorem deed_struct : ∃ f0 f1 f2 f3 : Field, Try.prog.underlying 35 = some (.struct #[f0, f1, f2, f3]) ∧ (f0.type = 5 ∧ f0.offset = 0) ∧ (f1.type = 33 ∧ f1.offset = 1) ∧ (f2.type = 3 ∧ f2.offset = 5) ∧ (f3.type = 4 ∧ f3.offset = 6) :=
  ⟨_, _, _, _, Try.underlying35, ⟨rfl, rfl⟩, ⟨rfl, rfl⟩, ⟨rfl, rfl⟩, ⟨rfl, rfl⟩⟩
theorem item_struct : ∃ f0 f1 f2 f3 : Field, Try.prog.underlying 33 = some (.struct #[f0, f1, f2, f3]) ∧ (f0.type = 3 ∧ f0.offset = 0) ∧ (f1.type = 3 ∧ f1.offset = 1) ∧ (f2.type = 9 ∧ f2.offset = 2) ∧ (f3.type = 31 ∧ f3.offset = 3) :=
  ⟨_, _, _, _, Try.underlying33, ⟨rfl, rfl⟩, ⟨rfl, rfl⟩, ⟨rfl, rfl⟩, ⟨rfl, rfl⟩⟩
theorem c5 : Try.prog.cellsOf 5 = 1 := by kernel_rfl
theorem c3 : Try.prog.cellsOf 3 = 1 := by kernel_rfl
theorem c4 : Try.prog.cellsOf 4 = 1 := by kernel_rfl
theorem c9 : Try.prog.cellsOf 9 = 1 := by kernel_rfl
theorem c31 : Try.prog.cellsOf 31 = 1 := by kernel_rfl
theorem c33 : Try.prog.cellsOf 33 = 4 := by kernel_rfl
theorem c35 : Try.prog.cellsOf 35 = 7 := by kernel_rfl

theorem deeds_of {H : Type} {enc : TypeId × Value → H} {w : World} {A : Option Addr} {len cap : Nat} {d : DataW H} {p : List MemPlace}
    (h : DataW.Trod enc Try.prog w 0 (fun _ => true) true 22 (.slice A len cap) d p) : Deeds w A len ∧ len ≤ maxLen := by
  obtain ⟨fuel, hf⟩ := h
  obtain ⟨f0, f1, f2, f3, he, ⟨t0, o0⟩, ⟨t1, o1⟩, ⟨t2, o2⟩, ⟨t3, o3⟩⟩ := deed_struct
  obtain ⟨g0, g1, g2, g3, hg, ⟨u0, q0⟩, ⟨u1, q1⟩, ⟨u2, q2⟩, ⟨u3, q3⟩⟩ := item_struct
  rcases open_slice Try.underlying22 hf with ⟨hcs, _⟩ | ⟨a, len', cap', m, n, D, Pl, hcs, _, hl, hm, hmm, _, hel⟩
  · simp only [Value.cells, List.cons.injEq, and_true, Value.slice.injEq] at hcs
    obtain ⟨rfl, rfl, rfl⟩ := hcs
    exact ⟨fun i hi => absurd hi (by omega), by simp [maxLen]⟩
  · simp only [Value.cells, List.cons.injEq, and_true, Value.slice.injEq] at hcs
    obtain ⟨rfl, rfl, rfl⟩ := hcs
    simp only [if_true] at hmm
    refine ⟨fun i hi => ?_, Nat.le_trans hl hm⟩
    have one : ∀ i, i < len → ∃ (kd p : Int) (x : It) (near : Bool),
        w.cell? (a.add (i * 7)) = some (.int .u8 kd) ∧ w.cell? (a.add (i * 7 + 1)) = some (.int .i64 x.fr) ∧ w.cell? (a.add (i * 7 + 2)) = some (.int .i64 x.to) ∧
        w.cell? (a.add (i * 7 + 3)) = some (.string x.by_) ∧ w.cell? (a.add (i * 7 + 4)) = some (.int .u64 x.at_) ∧ w.cell? (a.add (i * 7 + 5)) = some (.int .i64 p) ∧ w.cell? (a.add (i * 7 + 6)) = some (.bool near) ∧
        (0 ≤ kd ∧ kd ≤ 255) ∧ (-9223372036854775808 ≤ x.fr ∧ x.fr ≤ 9223372036854775807) ∧ (-9223372036854775808 ≤ x.to ∧ x.to ≤ 9223372036854775807) ∧ (0 ≤ x.at_ ∧ x.at_ < 18446744073709551616) ∧ x.by_.size ≤ maxLen := by
      intro i hi
      obtain ⟨cs, hc, ht⟩ := hel i (by omega)
      rw [c35] at hc
      obtain ⟨_, hcl, hat⟩ := World.cells?_some hc
      obtain ⟨y0, y1, y2, y3, n1, _, _, r0, r1, r2, r3⟩ := Go.Joins.trod_struct4 he ht
      rw [t0, o0, c5] at r0
      rw [t1, o1, c33] at r1
      rw [t2, o2, c3] at r2
      rw [t3, o3, c4] at r3
      obtain ⟨z0, z1, z2, z3, n2, _, _, s0, s1, s2, s3⟩ := Go.Joins.trod_struct4 hg r1
      rw [u0, q0, c3] at s0
      rw [u1, q1, c3] at s1
      rw [u2, q2, c9] at s2
      rw [u3, q3, c31] at s3
      match cs, hcl with
      | [b0, b1, b2, b3, b4, b5, b6], _ =>
        simp only [List.drop_zero, List.drop_succ_cons, List.take_succ_cons, List.take_zero] at r0 r2 r3 s0 s1 s2 s3
        obtain ⟨kd, e0, _, w0⟩ := DataW.trod_int Try.underlying5 r0
        obtain ⟨fr, e1, _, w1⟩ := DataW.trod_int Try.underlying3 s0
        obtain ⟨tt, e2, _, w2⟩ := DataW.trod_int Try.underlying3 s1
        obtain ⟨by_, e3, _, hsz⟩ := DataW.trod_string Try.underlying9 s2
        obtain ⟨at_, e4, _, w4⟩ := DataW.trod_int Try.underlying31 s3
        obtain ⟨p, e5, _, w5⟩ := DataW.trod_int Try.underlying3 r2
        obtain ⟨near, e6, _⟩ := DataW.trod_bool Try.underlying4 r3
        simp only [List.cons.injEq, and_true] at e0 e1 e2 e3 e4 e5 e6
        subst e0 e1 e2 e3 e4 e5 e6
        have hc' : ∀ j, j < 7 → w.cell? (a.add (i * 7 + j)) = [Value.int .u8 kd, .int .i64 fr, .int .i64 tt, .string by_, .int .u64 at_, .int .i64 p, .bool near][j]? := fun j hj => by
          have := hat j hj
          rwa [Go.Deep.add_add] at this
        exact ⟨kd, p, ⟨fr, tt, by_, at_⟩, near, hc' 0 (by omega), hc' 1 (by omega), hc' 2 (by omega), hc' 3 (by omega), hc' 4 (by omega), hc' 5 (by omega), hc' 6 (by omega), Go.bounds_u8 w0, Go.bounds_i64 w1, Go.bounds_i64 w2, ⟨(bounds_u64 w4).1, by have := (bounds_u64 w4).2; show at_ < _; omega⟩, hsz⟩
    obtain ⟨_, _, _, _, hz, _⟩ := one 0 (by omega)
    have hsp : a.spot = none := spot_none (a := a) (by simpa [Addr.add] using hz)
    have hae := addr_eta hsp
    generalize a.block = ab at hae
    generalize a.off = ao at hae
    subst hae
    simp only [add_row] at one
    obtain ⟨kd, p, x, near, h0, h1, h2, h3, h4, h5, h6, hb⟩ := one i hi
    exact ⟨ab, ao, rfl, World.block_lt_of_cell? w _ h0, kd, p, x, near, h0, by rw [← Nat.add_assoc] at h1; exact h1, by rw [← Nat.add_assoc] at h2; exact h2, by rw [← Nat.add_assoc] at h3; exact h3, by rw [← Nat.add_assoc] at h4; exact h4, by rw [← Nat.add_assoc] at h5; exact h5, by rw [← Nat.add_assoc] at h6; exact h6, hb⟩

end Go.Proofs.Ytioehmlaaimeaaa
