/-
  Owned rows cut, cleared, read: small lemmas that hold of every program. No condition of a statement stands here.
-/
import Derived.Test.YtflalllbplcgbaaK
import Derived.Lib.SliceRun
namespace Go.Proofs.Ytflalllbplcgbaa
open Go.RowKit Go.WideShapes Go.ChangeShapes

section
variable {w w' : World} {base size n : Nat} {e : TypeId} {v : Value} {xs : List Value}
theorem own_cut {A : Option Addr} {cap : Nat} (h : w.ownsRow base e size (.slice A n cap) n xs) (k : Nat) (hk : k ≤ n) (hA : A ≠ none) : w.ownsRow base e size (.slice A k cap) k (xs.take (k * size)) := by
  rcases h.2 with ⟨h0, _⟩ | ⟨g, cap', cur, hv, hb, hg, hc, hm, hs, ht⟩
  · injection h0 with h0; exact absurd h0 hA
  · injection hv with h1 h2 h3
    subst h1 h3
    have hkn : k * size ≤ n * size := Nat.mul_le_mul_right _ hk
    refine ⟨by rw [List.length_take, h.1]; omega, .inr ⟨g, cap, cur, rfl, hb, hg, by omega, hm, hs, ?_⟩⟩
    rw [← ht, List.take_take, Nat.min_eq_left hkn]

theorem own_slice (h : w.ownsRow base e size v n xs) : ∃ A c, v = .slice A n c := by
  rcases h.2 with ⟨rfl, rfl⟩ | ⟨g, cap, cur, rfl, _⟩
  · exact ⟨_, _, rfl⟩
  · exact ⟨_, _, rfl⟩

theorem own_full {g : Nat} (h : w.ownsRow base e 1 (.slice (some ⟨g, 0, none⟩) n n) n xs) : Blk w g e xs.toArray := by
  rcases h.2 with ⟨h0, _⟩ | ⟨g', cap', cur, hv, hb, hg, hc, hm, hs, ht⟩
  · cases h0
  · simp only [Value.slice.injEq, Option.some.injEq, Addr.mk.injEq, and_true, true_and] at hv
    obtain ⟨rfl, rfl⟩ := hv
    have : cur = xs.toArray := by
      apply Array.ext'
      rw [← ht, List.take_of_length_le (by rw [Array.length_toList]; omega)]
    rw [← this]
    exact hg

theorem Reads.new (w : World) (cs : Array Value) (t : TypeId) (n size : Nat) (h : cs.size = n * size) : Reads (w.alloc (.cells cs t)) (w.heap.size + 1) size (some ⟨w.heap.size, 0, none⟩) n cs.toList := by
  refine ⟨by simpa using h, fun _ => ⟨_, rfl, by simp, fun j u hu => ?_⟩⟩
  have : (⟨w.heap.size, 0, none⟩ : Addr).add j = ⟨w.heap.size, j, none⟩ := by unfold Addr.add; split <;> simp_all
  rw [this, (Blk.new w t cs).cell j]
  simpa using hu

theorem Reads.newAt {w : World} {cs : Array Value} {t : TypeId} {g : Nat} (hg : g = w.heap.size) (n size : Nat) (h : cs.size = n * size) {l : List Value} (hl : cs.toList = l) :
    Reads (w.alloc (.cells cs t)) (g + 1) size (some ⟨g, 0, none⟩) n l := by
  subst hg hl
  exact Reads.new w cs t n size h

/-- 'clear' of what stands behind an owned row's first elements: these stay. -/
theorem run_clear_own {P : Program} (t ty : TypeId) (z : Value) (ht : P.underlying t = some (.slice e)) (hv : ∀ w, (zeroValue e).run P w = .ok z w) (hz : z.cells.size = size) (h1 : ∀ u ∈ z.cells.toList, u.oneCell' = true)
    {g k cap m c : Nat} {A : Option Addr} (h : w.ownsRow base e size (.slice (some ⟨g, 0, none⟩) k cap) k xs) (hA : 0 < m → A = some ⟨g, k * size, none⟩) (hm : k + m ≤ cap) :
    ∃ w', (Builtin.clear_ #[t] ty #[.slice A m c]).run P w = .ok (.tuple #[]) w' ∧ w'.ownsRow base e size (.slice (some ⟨g, 0, none⟩) k cap) k xs ∧ w.grownBy w' (some g) ∧ w'.heap.size = w.heap.size := by
  rcases Nat.eq_zero_or_pos m with rfl | hpos
  · refine ⟨w, ?_, h, World.grownBy.refl _ _, rfl⟩
    rcases A with _ | a <;> simp [Builtin.clear_, run_underlying ht]
  · obtain rfl := hA hpos
    rcases h.2 with ⟨h0, _⟩ | ⟨g', cap', cur, hv', hb, hg, hc, hmx, hs, htk⟩
    · cases h0
    · simp only [Value.slice.injEq, Option.some.injEq, Addr.mk.injEq, and_true, true_and] at hv'
      obtain ⟨rfl, rfl⟩ := hv'
      have hlen : (Builtin.zeroCells z.cells m).toList.length = m * size := by rw [Array.length_toList, size_zeroCells, hz]
      have hfit : k * size + m * size ≤ cur.size := by rw [hs, ← Nat.add_mul]; exact Nat.mul_le_mul_right _ hm
      have hone : ∀ u ∈ (Builtin.zeroCells z.cells m).toList, u.oneCell' = true := by
        intro u hu
        obtain ⟨i, hi, rfl⟩ : ∃ i, i < m * z.cells.size ∧ u = z.cells[i % z.cells.size]! := by
          simp only [Builtin.zeroCells, Array.toList_map, List.mem_map, Array.toList_range, List.mem_range] at hu
          obtain ⟨i, h2, h3⟩ := hu
          exact ⟨i, h2, h3.symm⟩
        have hz0 : 0 < z.cells.size := by
          rcases Nat.eq_zero_or_pos z.cells.size with h0 | h0
          · rw [h0] at hi; omega
          · exact h0
        have hlt := Nat.mod_lt i hz0
        refine h1 _ ?_
        rw [getElem!_pos z.cells _ hlt]
        exact Array.getElem_mem_toList _
      have hst := run_storeCells_at (P := P) g (k * size) e (Builtin.zeroCells z.cells m).toList 0 cur w hg (by rw [hlen]; omega) hone
      obtain ⟨q, rfl⟩ : ∃ q, m = q + 1 := ⟨m - 1, by omega⟩
      refine ⟨_, by simp [Builtin.clear_, run_underlying ht, hv, hst]; rfl, ⟨h.1, .inr ⟨g, cap, _, rfl, hb, setRow_heap w g cur _ e _ hg, hc, hmx, ?_, ?_⟩⟩, ⟨rfl, rfl, rfl, by simp, fun i _ hi => setRow_other w g i _ (fun e => hi (by simp [e]))⟩, by simp⟩
      · simp only [List.size_toArray, List.length_append, List.length_take, List.length_drop, Array.length_toList] at hlen ⊢
        omega
      · have : (cur.toList.take (k * size)).length = k * size := by rw [List.length_take, Array.length_toList]; omega
        simp only [Nat.add_zero, List.append_assoc]
        rw [List.take_append_of_le_length (by omega), List.take_of_length_le (by omega)]
        exact htk

theorem wpList_clear_own {P : Program} (w : World) {ops : Array Oper} {rest : List Oper} {o : Oper} {a : Act} {Q : Exit → Act → World → Prop} (hgd : o.guard = none) (x : Operand) (t : TypeId)
    (ho : o.op = .call { callee := .builtin .clear, args := #[x], argTypes := #[t] }) (z : Value) (ht : P.underlying t = some (.slice e)) (hv : ∀ w, (zeroValue e).run P w = .ok z w) (hz : z.cells.size = size) (h1 : ∀ u ∈ z.cells.toList, u.oneCell' = true)
    (A : Option Addr) (m c : Nat) (hx : a.eval x = .slice A m c) {g k cap : Nat} (h : w.ownsRow base e size (.slice (some ⟨g, 0, none⟩) k cap) k xs) (hA : 0 < m → A = some ⟨g, k * size, none⟩) (hm : k + m ≤ cap)
    (hK : ∀ w', w'.ownsRow base e size (.slice (some ⟨g, 0, none⟩) k cap) k xs → w.grownBy w' (some g) → w'.heap.size = w.heap.size → wpList P ops Q rest (a.put o.dst (.tuple #[])) w') : wpList P ops Q (o :: rest) a w := by
  refine wpList_plain hgd fun K hK' => ?_
  obtain ⟨w', hrun, r1, r2, r3⟩ := run_clear_own (P := P) t o.type z ht hv hz h1 h hA hm (c := c)
  unfold Oper.wp
  simp [execOp, ho, resolve, invoke, builtin, hx, hrun, Result.andThen]
  exact hK' _ _ (hK w' r1 r2 r3)
end

end Go.Proofs.Ytflalllbplcgbaa
