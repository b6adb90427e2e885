/-
  Chapter 18: the chapter's examples: all of it walked.
-/
import Derived.Test.YtflalllbplcgbaaX
import Derived.Deep.DrawnRows
namespace Go.Proofs.Ytflalllbplcgbaa
open Go.RowKit Go.Sort Go.Maps Go.Shelf

attribute [local go_sem ↓] Go.wp_at_zero Go.wp_at_succ

/-- Two boxes of instances beside the waits. -/
structure EX (w0 w : World) (B b g1 g2 : Nat) (l : List It) : Prop where
  ws : WS w0 w B b l
  a : Blk w g1 36 #[.int .i64 1, .int .i64 1]
  b : Blk w g2 36 #[.int .i64 2, .int .i64 1]

section
variable {w0 w w' : World} {B b g1 g2 : Nat} {l l' : List It}
theorem EX.to (h : EX w0 w B b g1 g2 l) (hw : WS w0 w' B b l') (hg : w.grownBy w' (some b)) : EX w0 w' B b g1 g2 l' :=
  ⟨hw, h.a.grown hg (fun e => h.ws.map.ne_blk h.a (by injection e with e; exact e.symm)), h.b.grown hg (fun e => h.ws.map.ne_blk h.b (by injection e with e; exact e.symm))⟩
theorem EX.gr (h : EX w0 w B b g1 g2 l) (hg : Gr w w') : EX w0 w' B b g1 g2 l := h.to (h.ws.gr hg) (only_of_below hg.below _)
theorem EX.bel (h : EX w0 w B b g1 g2 l) (hg : Below w.heap.size w w') : EX w0 w' B b g1 g2 l := h.to (h.ws.below hg) (only_of_below hg _)
end

theorem own_blk {w : World} {base cap n size g : Nat} {e : TypeId} {xs : List Value} (h : w.ownsRow base e size (.slice (some ⟨g, 0, none⟩) n cap) n xs) : ∃ cur, Blk w g e cur := by
  rcases h.2 with ⟨h0, _⟩ | ⟨g', cap', cur, hv, _, hh, _⟩
  · cases h0
  · simp only [Value.slice.injEq, Option.some.injEq, Addr.mk.injEq, and_true, true_and] at hv
    obtain ⟨rfl, rfl⟩ := hv
    exact ⟨cur, hh⟩
theorem first_ws {w0 w : World} {B b : Nat} {l : List It} (h : WS w0 w B b l) : WS w0 w.drew B b l := h.drew

set_option maxRecDepth 100000 in
set_option maxHeartbeats 4000000 in
theorem examples_any (w : World) : Calls Try.prog 9 #[] w fun e w' => e = .returned (.bool true) ∧ Below w.heap.size w w' := by
  go_enter Try.func9, Try.ntmps9
  go_wp2_with fail
  refine (new_any w w (Below.refl _ _)).mono ?_
  rintro e w1 ⟨B, b, rfl, hw1⟩
  have W1 := hide hw1
  clear hw1
  go_wp2_with fail
  have hE : EX w ((w1.alloc (.cells #[.int .i64 1, .int .i64 1] 36)).alloc (.cells #[.int .i64 2, .int .i64 1] 36)) B b w1.heap.size (w1.heap.size + 1) [] :=
    ⟨(W1.out.alloc _).alloc _, (Blk.new w1 _ _).alloc _, by
      have := Blk.new (w1.alloc (.cells #[.int .i64 1, .int .i64 1] 36)) 36 #[.int .i64 2, .int .i64 1]
      rwa [World.size_alloc] at this⟩
  obtain ⟨g1, hg1⟩ : ∃ g, g = w1.heap.size := ⟨_, rfl⟩
  obtain ⟨g2, hg2⟩ : ∃ g, g = w1.heap.size + 1 := ⟨_, rfl⟩
  rw [← hg2, ← hg1] at hE
  rw [← hg2, ← hg1]
  have E0 := hide hE
  clear hE hg1 hg2 W1
  refine (set_b w _ B b E0.out.ws).mono ?_
  rintro e w2 ⟨rfl, h2, k2⟩
  have E2 := hide (E0.out.to h2 k2)
  have a0 := (E2.out.a.cell 0).trans rfl
  have a1 := (E2.out.a.cell 1).trans rfl
  clear h2 k2 E0
  go_wp2_with fail
  refine (set_a w _ B b E2.out.ws).mono ?_
  rintro e w3 ⟨rfl, h3, k3⟩
  have E3 := hide (E2.out.to h3 k3)
  clear h3 k3 E2 a0 a1
  go_wp2_with fail
  refine (set_z w _ B b E3.out.ws).mono ?_
  rintro e w4 ⟨rfl, h4, k4⟩
  have E4 := hide (E3.out.to h4 k4)
  have b0 := (E4.out.b.cell 0).trans rfl
  have b1 := (E4.out.b.cell 1).trans rfl
  clear h4 k4 E3
  go_wp2_with fail
  refine (of_b w _ B b E4.out.ws).mono ?_
  rintro e w5 ⟨rfl, h5⟩
  have E5 := hide (E4.out.bel h5)
  clear h5 E4 b0 b1
  go_wp2_with fail
  have hx : Blk (w5.alloc (.cells #[.int .i64 2, .int .i64 1, .int .u64 5, .int .i64 2] 47)) w5.heap.size 47 #[.int .i64 2, .int .i64 1, .int .u64 5, .int .i64 2] := Blk.new _ _ _
  obtain ⟨gx, hgx⟩ : ∃ g, g = w5.heap.size := ⟨_, rfl⟩
  rw [← hgx] at hx ⊢
  have X5 := hide hx
  have E6 := hide (E5.out.gr ((Gr.refl w5).alloc (.cells #[.int .i64 2, .int .i64 1, .int .u64 5, .int .i64 2] 47)))
  clear hx hgx E5
  refine (all_any w _ B b [exB, exA] (by simp) E6.out.ws).mono ?_
  rintro e w6 ⟨v6, l6, rfl, h6⟩
  obtain ⟨A6, c6, rfl⟩ := own_slice h6.own
  have hl6 : l6.length = 2 := h6.perm.length_eq
  have X6 := hide (X5.out.below h6.bel X5.out.lt)
  have E7 := hide (E6.out.bel h6.bel)
  rw [hl6]
  clear h6 E6 X5 hl6
  go_wp2_with fail
  refine (due_4 w _ B b E7.out.ws).mono ?_
  rintro e w7 ⟨v7, rfl, o7, h7, k7⟩
  obtain ⟨A7, c7, rfl⟩ := own_slice o7
  have X7 := hide (X6.out.grown k7 (fun e => E7.out.ws.map.ne_blk X6.out (by injection e with e; exact e.symm)))
  have E8 := hide (E7.out.to h7 k7)
  clear h7 k7 o7 E7 X6
  go_wp2_with fail
  refine (due_5 w _ B b E8.out.ws).mono ?_
  rintro e w8 ⟨v8, rfl, o8, h8, k8⟩
  obtain ⟨g8, c8, rfl, _, hg8⟩ := o8.form (by omega)
  have q0 := o8.cells (g := g8) rfl 0 (.int .i64 1) rfl
  have q1 := o8.cells (g := g8) rfl 1 (.int .i64 1) rfl
  have Q8 := hide (own_blk o8)
  have X8 := hide (X7.out.grown k8 (fun e => E8.out.ws.map.ne_blk X7.out (by injection e with e; exact e.symm)))
  have E9 := hide (E8.out.to h8 k8)
  clear h8 k8 o8 E8 X7
  go_wp2_with fail
  refine (draw_any 0 _).mono ?_
  rw [ex_next]
  rintro e w9 ⟨rfl, rfl⟩
  have a0 := (E9.out.a.cell 0).trans rfl
  have a1 := (E9.out.a.cell 1).trans rfl
  have x3 := (X8.out.cell 3).trans rfl
  have q0' : w8.cell? ⟨g8, 0, none⟩ = some (.int .i64 1) := by simpa [Addr.add] using q0
  have q1' : w8.cell? ⟨g8, 1, none⟩ = some (.int .i64 1) := by simpa [Addr.add] using q1
  have eq1 := fun (W : World) => eq_id 1 1 1 1 W
  have hge := fun (op : BinOp) (o1 o2 : Operand) (W : World) => guard_id op o1 o2 #[.int .i64 1, .int .i64 1] #[.int .i64 1, .int .i64 1] W
  rw [show eqId 1 1 1 1 = true from rfl] at eq1
  clear q0 q1
  go_wp2_with fail
  have KS : ∀ W' : World, w8.grownBy W' (some b) → W'.cell? ⟨gx, 3, none⟩ = some (.int .i64 2) ∧ W'.cell? ⟨g8, 0, none⟩ = some (.int .i64 1) ∧ W'.cell? ⟨g8, 1, none⟩ = some (.int .i64 1) ∧
      W'.cell? ⟨g1, 0, none⟩ = some (.int .i64 1) ∧ W'.cell? ⟨g1, 1, none⟩ = some (.int .i64 1) := by
    intro W' hg
    obtain ⟨cur, hq⟩ := Q8.out
    have hx := X8.out.grown hg (fun e => E9.out.ws.map.ne_blk X8.out (by injection e with e; exact e.symm))
    have ha := E9.out.a.grown hg (fun e => E9.out.ws.map.ne_blk E9.out.a (by injection e with e; exact e.symm))
    have hq2 := hq.grown hg (fun e => E9.out.ws.map.ne_blk hq (by injection e with e; exact e.symm))
    exact ⟨(hx.cell 3).trans rfl, ((hq2.cell 0).trans (hq.cell 0).symm).trans q0', ((hq2.cell 1).trans (hq.cell 1).symm).trans q1', (ha.cell 0).trans rfl, (ha.cell 1).trans rfl⟩
  have KSH := hide KS
  have gd := only_drew (World.grownBy.refl w8 (some b))
  have GD := hide gd
  clear KS a0 a1 x3 q0' q1' gd
  simp only [List.append_eq, List.cons_append, List.nil_append]
  go_region_held3 (fun W' => W'.cell? ⟨gx, 3, none⟩ = some (.int .i64 2) ∧ W'.cell? ⟨g8, 0, none⟩ = some (.int .i64 1) ∧ W'.cell? ⟨g8, 1, none⟩ = some (.int .i64 1) ∧
      W'.cell? ⟨g1, 0, none⟩ = some (.int .i64 1) ∧ W'.cell? ⟨g1, 1, none⟩ = some (.int .i64 1))
    (first | exact KSH.out _ (World.grownBy.refl _ _) | exact KSH.out _ GD.out | exact KSH.out _ (by assumption))
    (first
      | (go_at_call 17; refine (stop_a w _ B b (first_ws E9.out.ws)).mono ?_; rintro e w9 ⟨rfl, _, k9⟩; have k9' : w8.grownBy w9 (some b) := only_trans GD.out k9; clear k9)
      | (go_at_call 13; (with_reducible refine (ex_rank1 _).mono ?_); rintro e w10 ⟨rfl, k10⟩; have k10' : w8.grownBy w10 (some b) := only_trans (by assumption) (only_of_below k10.below (some b)); clear k10)
      | (go_at_call 13; (with_reducible refine (ex_rank0 _).mono ?_); rintro e w11 ⟨rfl, k11⟩; have k11' : w8.grownBy w11 (some b) := only_trans (by assumption) (only_of_below k11.below (some b)); clear k11)
      | (go_at_call 15; refine (ex_delay _).mono ?_; rintro e w12 ⟨rfl, k12⟩; have k12' : w8.grownBy w12 (some b) := only_trans (by assumption) (only_of_below k12.below (some b)); clear k12))
  all_goals
    have hfin := E9.out.ws.bel.grown k12' E9.out.ws.bel.size (fun g e => by injection e with e; subst e; exact E9.out.ws.gb)
    have FIN := hide hfin
    clear hfin
    go_wp2_with fail
    go_ret
    exact ⟨rfl, FIN.out⟩

end Go.Proofs.Ytflalllbplcgbaa
