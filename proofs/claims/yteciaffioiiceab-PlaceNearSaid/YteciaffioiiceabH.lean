/-
  Chapter 05: the chapter's examples, walked.
-/
import Derived.Test.YteciaffioiiceabG
import Derived.Test.YteciaffioiiceabRow
namespace Go.Proofs.Yteciaffioiiceab
open Go.RowKit Go.Sort Go.Lib Go.Shelf

theorem ceq_run (a b c d : Nat) (r : Bool) (h : (FloatKind.f64.format.order a c == some .eq && FloatKind.f64.format.order b d == some .eq) = r) (t : TypeId) (W : World) :
    (binOp .eql t (.complex .f64 a b) (.complex .f64 c d)).run Try.prog W = .ok (.bool r) W := by
  rw [run_eql_complex, h]

/-- What was handed back as a row of the call's own, cell by cell. -/
theorem own_at {w : World} {base : Nat} {t : TypeId} {v : Value} {n : Nat} {xs : List Value} (h : w.ownsRow base t 1 v n xs) (hn : 0 < n) :
    ∃ g cap, v = .slice (some ⟨g, 0, none⟩) n cap ∧ base ≤ g ∧ g < w.heap.size ∧ ∀ j u, xs[j]? = some u → w.cell? ⟨g, j, none⟩ = some u := by
  obtain ⟨g, cap, hv, hg, hlt⟩ := h.form hn
  subst hv
  refine ⟨g, cap, rfl, hg, hlt, fun j u hu => ?_⟩
  have := h.cells (g := g) rfl j u hu
  rwa [show (⟨g, 0, none⟩ : Addr).add j = ⟨g, j, none⟩ from by unfold Addr.add; split <;> simp_all] at this

theorem ringL_at (n k : Nat) (h : k < n) : (ringL n)[k]? = some (ringV k) := by simp [ringL, h]

set_option maxHeartbeats 4000000 in
theorem examples_any (w : World) : Calls Try.prog 4 #[] w fun e w' => e = .returned (.bool true) ∧ Below w.heap.size w w' := by
  have q1 := ceq_run 0 4607182418800017408 0 4607182418800017408 true (by decide +kernel)
  have q2 := ceq_run 13830554455654793216 0 13830554455654793216 0 true (by decide +kernel)
  have q3 := ceq_run 4611686018427387904 0 4611686018427387904 0 true (by decide +kernel)
  have q4 := ceq_run 13835058055282163712 4607182418800017408 13835058055282163712 4607182418800017408 true (by decide +kernel)
  go_enter Try.func4, Try.ntmps4
  go_wp2_with fail
  refine (ring_any 5 w (by omega) (by omega)).mono ?_
  rintro e w1 ⟨v, rfl, own, hb1⟩
  obtain ⟨g, cap, rfl, hg, hlt, hc⟩ := own_at (show w1.ownsRow w.heap.size 28 1 v 5 (ringL 5) from own) (by omega)
  have a1 := hc 1 _ (ringL_at 5 1 (by omega))
  have a2 := hc 2 _ (ringL_at 5 2 (by omega))
  have a4 := hc 4 _ (ringL_at 5 4 (by omega))
  simp only [ringV, ring_ex.1, ring_ex.2.1, ring_ex.2.2] at a1 a2 a4
  have A1 := hide a1
  have A2 := hide a2
  have A4 := hide a4
  have B1 := hide hb1
  clear own hc a1 a2 a4 hb1
  go_wp2_with fail
  have nb := Blk.new w1 28 #[.complex .f64 0 0, .complex .f64 4613937818241073152 0, .complex .f64 0 4607182418800017408, .complex .f64 0 13830554455654793216]
  refine (ex_order w1.heap.size 4 _ (by simp) (fun x hx => ?_)).mono ?_
  · rw [nb.cell x]
    have hx4 : x = 0 ∨ x = 1 ∨ x = 2 ∨ x = 3 := by omega
    rcases hx4 with rfl | rfl | rfl | rfl <;> rfl
  clear nb
  rintro e w2 ⟨A, cp, rfl, hr, hb2⟩
  have hb2' : Below w1.heap.size w1 w2 := ((Below.refl _ _).alloc (Nat.le_refl _) _).trans (hb2.mono (by simp))
  have R2 := hide hr
  have B2 := hide hb2'
  clear hb2 hb2' hr
  go_wp2_with fail
  refine (same_true A (some ⟨w2.heap.size, 0, none⟩) 3 cp 3 w2.heap.size (w2.heap.size + 1) [2, 3, 1] _ (by omega) ?_ ?_).mono ?_
  · exact R2.out.alloc (Nat.le_refl _) _
  · exact Reads.newAt rfl 3 1 rfl rfl
  rintro e w3 ⟨rfl, q, rfl⟩
  have hb3 : Below w1.heap.size w1 ((w2.alloc (.cells #[.int .i64 2, .int .i64 3, .int .i64 1] 3)).drewN q) := below_drewN (B2.out.alloc B2.out.size _) q
  obtain ⟨w4, hw4⟩ : ∃ w4, w4 = (w2.alloc (.cells #[.int .i64 2, .int .i64 3, .int .i64 1] 3)).drewN q := ⟨_, rfl⟩
  rw [← hw4] at hb3 ⊢
  have c1 : w4.cell? ⟨g, 1, none⟩ = _ := (hb3.cell (p := ⟨g, 1, none⟩) hlt).trans A1.out
  have c2 : w4.cell? ⟨g, 2, none⟩ = _ := (hb3.cell (p := ⟨g, 2, none⟩) hlt).trans A2.out
  have c4 : w4.cell? ⟨g, 4, none⟩ = _ := (hb3.cell (p := ⟨g, 4, none⟩) hlt).trans A4.out
  have hB : Below w.heap.size w w4 := B1.out.trans (hb3.mono B1.out.size)
  have HB := hide hB
  clear hw4 hb3 hB
  go_wp2_with fail
  refine (far_any _ _ _ _ 25 _ num_ex.1 num_ex.1 num_ex.2.1 num_ex.2.2.1 far_ex.1).mono ?_
  rintro e w' ⟨rfl, rfl⟩
  go_wp2_with fail
  refine (spin_any _ _ 1 1 _ _ num_ex.1 num_ex.2.2.2.2 spin_ex (by rw [show (Int.tmod 1 4 + 4) = (5 : Int) from rfl, IntWalk.wrap64_in _ (by omega)]; rfl) (by omega)).mono ?_
  rintro e w' ⟨rfl, rfl⟩
  go_wp2_with fail
  refine (right_any _ _ _ zero_num zero_num).mono ?_
  rw [right_ex.1]
  rintro e w' ⟨rfl, rfl⟩
  go_wp2_with fail
  refine (right_any _ _ _ num_ex.2.2.2.1 zero_num).mono ?_
  rw [right_ex.2]
  rintro e w' ⟨rfl, rfl⟩
  go_wp2_with fail
  refine (far_any _ _ _ _ 0 _ num_ex.2.2.2.1 zero_num zero_num zero_num far_ex.2).mono ?_
  rintro e w' ⟨rfl, rfl⟩
  go_wp2_with fail
  go_ret
  exact ⟨rfl, HB.out⟩

end Go.Proofs.Yteciaffioiiceab
