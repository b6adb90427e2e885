/-
  Chapter 18: slices.IndexFunc and slices.DeleteFunc at waits whose time is still to come.
-/
import Derived.Test.YtflalllbplcgbaaG
namespace Go.Proofs.Ytflalllbplcgbaa
open Go.RowKit Go.Sort Go.Maps Go.Shelf

def lateB (now : Int) (x : It) : Bool := decide (now < x.at_)

/-- Cells of the element at a place. -/
theorem own_cells {w : World} {base cap i : Nat} {A : Option Addr} {l : List It} (h : w.ownsRow base 47 4 (.slice A l.length cap) l.length (cellsL It.cells l)) (hi : i < l.length) :
    ∃ g x, A = some ⟨g, 0, none⟩ ∧ base ≤ g ∧ g < w.heap.size ∧ l[i]? = some x ∧ w.cell? ⟨g, i * 4, none⟩ = some (.int .i64 x.o) ∧ w.cell? ⟨g, i * 4 + 1, none⟩ = some (.int .i64 x.n) ∧
      w.cell? ⟨g, i * 4 + 2, none⟩ = some (.int .u64 x.at_) ∧ w.cell? ⟨g, i * 4 + 3, none⟩ = some (.int .i64 x.t) := by
  obtain ⟨g, cap', hv, hb, hlt⟩ := h.form (by omega)
  simp only [Value.slice.injEq, true_and] at hv
  obtain ⟨rfl, rfl⟩ := hv
  have hx : l[i]? = some (l[i]) := List.getElem?_eq_getElem hi
  have hc : ∀ j u, j < 4 → (l[i]).cells[j]? = some u → w.cell? ⟨g, i * 4 + j, none⟩ = some u := fun j u hj hu => by
    have := h.cells (g := g) rfl (i * 4 + j) u (by rw [cellsL_at It.cells It.len hx hj]; exact hu)
    rwa [show (⟨g, 0, none⟩ : Addr).add (i * 4 + j) = ⟨g, i * 4 + j, none⟩ from by unfold Addr.add; split <;> simp_all] at this
  exact ⟨g, l[i], rfl, hb, hlt, hx, hc 0 _ (by omega) rfl, hc 1 _ (by omega) rfl, hc 2 _ (by omega) rfl, hc 3 _ (by omega) rfl⟩

/-- What IndexFunc tells: the first whose time is still to come, or none. -/
def FirstLate (now : Int) (l : List It) (e : Ending) : Prop :=
  (∃ i : Nat, e = .returned (.int .i64 (i : Int)) ∧ i < l.length ∧ (l.take i).all (fun x => !lateB now x) = true ∧ ∃ x, l[i]? = some x ∧ lateB now x = true) ∨ (e = .returned (.int .i64 (-1)) ∧ l.all (fun x => !lateB now x) = true)

set_option maxHeartbeats 2000000 in
theorem index_any (base cap gn : Nat) (A : Option Addr) (l : List It) (now : Int) (w : World) (hl : l.length ≤ 1000000) (h : w.ownsRow base 47 4 (.slice A l.length cap) l.length (cellsL It.cells l)) (hn : w.cell? ⟨gn, 0, none⟩ = some (.int .u64 now)) :
    Calls Try.prog 39 #[.slice A l.length cap, .func (.func 29) #[] #[.pointer (some ⟨gn, 0, none⟩)]] w
      fun e w' => FirstLate now l e ∧ Gr w w' := by
  have H := hide h
  have HN := hide hn
  clear h hn
  go_enter Try.func39, Try.ntmps39
  go_wp2_with fail
  go_loopg [8] (l.length + 1) (fun q i wr => ∃ k : Nat, i = .int .i64 (k : Int) ∧ k ≤ l.length ∧ q = l.length + 1 - k ∧ Hid ((l.take k).all (fun x => !lateB now x) = true) ∧ Hid (Gr w wr))
  case atStart => exact ⟨0, rfl, by omega, by omega, by show ([] : List It).all _ = true; rfl, Gr.refl w⟩
  case round =>
    obtain ⟨k, rfl, hk, rfl, AL, G⟩ := hrel
    by_cases hlt : k < l.length
    · have k1 : (k : Int) < l.length := by omega
      have k0 : (0 : Int) ≤ k := by omega
      have H1 := hide (H.out.kept (row := none) (below_grown_none G.out.below) (by cases hv : (Value.slice A l.length cap).ownBlock <;> simp))
      obtain ⟨g, x, rfl, hb, hlg, hx, c0, c1, c2, c3⟩ := own_cells H1.out hlt
      have hcn : wr.cell? ⟨gn, 0, none⟩ = some (.int .u64 now) := (G.out.cell (World.block_lt_of_cell? w _ HN.out)).trans HN.out
      have CN := hide hcn
      have HX := hide hx
      clear hcn hx
      go_wp2_with fail
      refine (late_any x now gn _ CN.out).mono ?_
      cases hlate : decide (now < x.at_) with
      | true =>
        have L := hide hlate
        clear hlate
        rintro e w1 ⟨rfl, rfl⟩
        go_wp2_with fail
        go_ret
        exact ⟨.inl ⟨k, rfl, hlt, AL.out, x, HX.out, L.out⟩, G.out.alloc _⟩
      | false =>
        have L := hide hlate
        clear hlate
        rintro e w1 ⟨rfl, rfl⟩
        go_wp2_with fail
        go_roundg (l.length + 1 - (k + 1))
        case measure => omega
        case rel =>
          refine ⟨k + 1, by go_num, by omega, rfl, ?_, G.out.alloc _⟩
          show (l.take (k + 1)).all _ = true
          rw [List.take_add_one, HX.out, List.all_append, AL.out]
          simp [lateB, L.out]
    · have k1 : ¬ (k : Int) < l.length := by omega
      obtain rfl : k = l.length := by omega
      go_wp2_with fail
      go_ret
      have := AL.out
      rw [List.take_length] at this
      exact ⟨.inr ⟨rfl, this⟩, G.out⟩

end Go.Proofs.Ytflalllbplcgbaa
