/-
  Chapter 2: PackPlays: the reader and the deeds that come in are what the walk takes.
-/
import Derived.Test.YtjneagcomaljdaaQ4
import Derived.Test.YtjneagcomaljdaaR2
namespace Go.Proofs.Ytjneagcomaljdaa
open Go.RowKit Go.WideShapes Go.ChangeShapes Go.WideElems Go.Deep

theorem reader_struct : ∃ f0 f1 : Field, Try.prog.underlying 23 = some (.struct #[f0, f1]) ∧ f0.type = 9 ∧ f0.offset = 0 ∧ f1.type = 4 ∧ f1.offset = 1 := ⟨_, _, Try.underlying23, rfl, rfl, rfl, rfl⟩

theorem reader_of {H : Type} {enc : TypeId × Value → H} {w : World} {base b0 : Nat} {v : Value} {d : DataW H} {p : List MemPlace}
    (hv : Value.okWide Try.prog w .any b0 23 v) (h : DataW.Trod enc Try.prog w base (fun _ => true) true 23 v d p) : ∃ st bd, v = rdV st bd ∧ st.size ≤ maxLen := by
  obtain ⟨f0, f1, ht, t0, o0, t1, o1⟩ := reader_struct
  obtain ⟨cs, rfl, _⟩ := okWide_struct ht hv
  obtain ⟨fuel, hf⟩ := h
  obtain ⟨y0, y1, n, _, hl, r0, r1⟩ := Go.ChangeShapes.trod_struct2 ht hf
  have hc : Try.prog.cellsOf 23 = 2 := by kernel_rfl
  have h9 : Try.prog.cellsOf 9 = 1 := by kernel_rfl
  have h4 : Try.prog.cellsOf 4 = 1 := by kernel_rfl
  rw [hc] at hl
  rw [t0, o0, h9] at r0
  rw [t1, o1, h4] at r1
  simp only [Value.cells] at hl r0 r1
  obtain ⟨st, e0, _, hs⟩ := DataW.trod_string Try.underlying9 r0
  obtain ⟨bd, e1, _⟩ := DataW.trod_bool Try.underlying4 r1
  refine ⟨st, bd, ?_, hs⟩
  obtain ⟨l⟩ := cs
  match l, hl with
  | [a, b], _ =>
    simp at e0 e1
    subst e0
    subst e1
    rfl

theorem deed_struct : ∃ fs : Array Field, Try.prog.underlying 30 = some (.struct fs) ∧ oneCellFields Try.prog fs = true ∧ Try.prog.cellsOf 30 = fs.size ∧ fs.size = 2 ∧
    fs[0]?.map (·.type) = some 5 ∧ fs[1]?.map (·.type) = some 3 :=
  ⟨_, Try.underlying30, by kernel_rfl, by kernel_rfl, rfl, rfl, rfl⟩

theorem deeds_of {H : Type} {enc : TypeId × Value → H} {w : World} {A : Option Addr} {len cap : Nat} {d : DataW H} {p : List MemPlace}
    (h : DataW.Trod enc Try.prog w 0 (fun _ => true) true 24 (.slice A len cap) d p) : Deeds w A len ∧ len ≤ maxLen := by
  obtain ⟨fuel, hf⟩ := h
  obtain ⟨fs, he, hone, hC, h6, t0, t1⟩ := deed_struct
  rcases open_slice_fields Try.underlying24 he hone hC hf with ⟨hcs, _⟩ | ⟨a, len', cap', m, D, Pl, hcs, _, hl, hm, hmm, _, hel⟩
  · simp only [Value.cells, List.cons.injEq, and_true, Value.slice.injEq] at hcs
    obtain ⟨rfl, rfl, rfl⟩ := hcs
    exact ⟨fun i hi => absurd hi (by omega), by simp [maxLen]⟩
  · simp only [Value.cells, List.cons.injEq, and_true, Value.slice.injEq] at hcs
    obtain ⟨rfl, rfl, rfl⟩ := hcs
    simp only [if_true] at hmm
    refine ⟨fun i hi => ?_, Nat.le_trans hl hm⟩
    have fld : ∀ (i : Nat), i < len → ∀ (j t : Nat), fs[j]?.map (·.type) = some t → ∃ (v : Value) (y : DataW H × List MemPlace) (n : Nat), w.cell? (a.add (i * 2 + j)) = some v ∧ DataW.trod enc Try.prog w 0 (fun _ => true) true n t [v] = some y := by
      intro i hi j t hj
      obtain ⟨ys, n, _, _, _, hfl⟩ := hel i (by omega)
      obtain ⟨f, hf1, rfl⟩ := Option.map_eq_some_iff.1 hj
      obtain ⟨v, y, hc, _, ht⟩ := hfl j f hf1
      rw [h6] at hc
      exact ⟨v, y, n, hc, ht⟩
    obtain ⟨vz, _, _, hz, _⟩ := fld 0 (by omega) 0 5 t0
    have hsp : a.spot = none := spot_none (a := a) (by simpa [Addr.add] using hz)
    have hae := addr_eta hsp
    generalize a.block = ab at hae
    generalize a.off = ao at hae
    subst hae
    simp only [add_row] at fld
    obtain ⟨v0, _, n0, c0, r0⟩ := fld i hi 0 5 t0
    obtain ⟨v1, _, n1, c1, r1⟩ := fld i hi 1 3 t1
    obtain ⟨k, e0, _, w0⟩ := DataW.trod_int Try.underlying5 r0
    obtain ⟨sz, e1, _, w1⟩ := DataW.trod_int Try.underlying3 r1
    simp only [List.cons.injEq, and_true] at e0 e1
    subst e0
    subst e1
    have hb := World.block_lt_of_cell? w _ c0
    exact ⟨ab, ao, rfl, hb, k, sz, c0, c1, Go.bounds_u8 w0, Go.bounds_i64 w1⟩

theorem plays_law (st : ByteArray) (bd : Bool) (A : Option Addr) (len c : Nat) (n long size : Int) (s : ByteArray) (w : World) (hl : len ≤ 9223372036854775807) (hD : Deeds w A len) (hst : st.size ≤ maxLen)
    (hn : 0 ≤ n ∧ n < 18446744073709551616) (hs : -9223372036854775808 ≤ size ∧ size ≤ 9223372036854775807) (ht : s.size ≤ 140737488351232) (hlong : 0 ≤ long ∧ long ≤ 4294967295) :
    Calls Try.prog 3 #[rdV st bd, .slice A len c, .int .u64 n, .int .i64 size, .string s, .int .u32 long] w fun e w' => e = .returned (.bool true) ∧ Below w.heap.size w w' := by
  obtain ⟨n, rfl⟩ := Int.eq_ofNat_of_zero_le hn.1
  obtain ⟨long, rfl⟩ := Int.eq_ofNat_of_zero_le hlong.1
  exact plays_walk st bd A len c n long size s w hl hD hst (by omega) hs ht (by omega)

end Go.Proofs.Ytjneagcomaljdaa
