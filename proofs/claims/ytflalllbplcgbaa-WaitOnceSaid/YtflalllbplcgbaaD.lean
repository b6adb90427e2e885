/-
  Chapter 18: Set, Stop, Of: walked.
-/
import Derived.Test.YtflalllbplcgbaaC
namespace Go.Proofs.Ytflalllbplcgbaa
open Go.RowKit Go.Sort Go.Maps

theorem Gr.cell {w w' : World} (h : Gr w w') {b o : Nat} (hb : b < w.heap.size) : w'.cell? ⟨b, o, none⟩ = w.cell? ⟨b, o, none⟩ := h.below.cell (p := ⟨b, o, none⟩) hb

theorem putL_ok {x : It} (hx : x.Ok) : ∀ {l : List It}, (∀ y ∈ l, y.Ok) → ∀ y ∈ putL x l, y.Ok
  | [], _ => by simp [putL, hx]
  | z :: r, h => by
    unfold putL
    split
    · intro y hy
      rcases List.mem_cons.1 hy with rfl | hy
      · exact hx
      · exact h y (List.mem_cons_of_mem _ hy)
    · intro y hy
      rcases List.mem_cons.1 hy with rfl | hy
      · exact h y List.mem_cons_self
      · exact putL_ok hx (fun y hy => h y (List.mem_cons_of_mem _ hy)) y hy

def setOk (x : It) : Bool := rightB x.o x.n && decide (0 ≤ x.t)

set_option maxRecDepth 100000 in
set_option maxHeartbeats 1000000 in
theorem set_any (w0 w : World) (B b : Nat) (l : List It) (x : It) (hx : x.Ok) (h : WS w0 w B b l) :
    Calls Try.prog 21 #[.pointer (some ⟨B, 0, none⟩), keyV x.o x.n, .int .u64 x.at_, .int .i64 x.t] w
      fun e w' => e = .returned (.bool (setOk x)) ∧ WS w0 w' B b (if setOk x then putL x l else l) ∧ w.grownBy w' (some b) := by
  unfold setOk
  have hbox : Blk (w.alloc (.cells #[.int .i64 x.o, .int .i64 x.n] 36)) w.heap.size 36 #[.int .i64 x.o, .int .i64 x.n] := Blk.new _ _ _
  obtain ⟨kl, hkl⟩ := id_key x.o x.n hx.1 hx.2.1
  cases hr : rightB x.o x.n with
  | false =>
    simp only [Bool.false_and, Bool.false_eq_true, if_false]
    have W := hide h
    have R := hide hr
    clear h hr hbox hx hkl
    unfold keyV
    go_enter Try.func21, Try.ntmps21
    go_wp2_with fail
    refine (right_any x.o x.n _).mono ?_
    rw [R.out]
    rintro e w1 ⟨rfl, hg⟩
    have G := hide hg
    clear hg
    go_wp2_with fail
    go_ret
    exact ⟨rfl, (W.out.alloc _).gr G.out, only_of_below (((Gr.refl w).alloc _).trans G.out).below _⟩
  | true =>
    rcases Int.lt_or_le x.t 0 with ht | ht
    · rw [show decide (0 ≤ x.t) = false from by simp; omega]
      simp only [Bool.and_false, Bool.false_eq_true, if_false]
      have W := hide h
      have R := hide hr
      clear h hr hbox hx hkl
      unfold keyV
      go_enter Try.func21, Try.ntmps21
      go_wp2_with fail
      refine (right_any x.o x.n _).mono ?_
      rw [R.out]
      rintro e w1 ⟨rfl, hg⟩
      have G := hide hg
      clear hg
      go_wp2_with fail
      go_ret
      exact ⟨rfl, (W.out.alloc _).gr G.out, only_of_below (((Gr.refl w).alloc _).trans G.out).below _⟩
    · rw [show decide (0 ≤ x.t) = true from by simpa using ht]
      simp only [Bool.and_self, if_true]
      have ht' : ¬ x.t < 0 := by omega
      have W := hide h
      have R := hide hr
      have K := hide hkl
      have OK := hide (putL_ok hx h.ok)
      have HB := hide hbox
      clear h hr hx hkl hbox
      unfold keyV
      go_enter Try.func21, Try.ntmps21
      go_wp2_with fail
      refine (right_any x.o x.n _).mono ?_
      rw [R.out]
      rintro e w1 ⟨rfl, hg⟩
      have hW1 := (W.out.alloc (.cells #[.int .i64 x.o, .int .i64 x.n] 36)).gr hg
      have c0 := hW1.cell
      have b1 := HB.out.below hg.below HB.out.lt
      have d0 : w1.cell? ⟨w.heap.size, 0, none⟩ = some (.int .i64 x.o) := (b1.cell 0).trans rfl
      have d1 : w1.cell? ⟨w.heap.size, 1, none⟩ = some (.int .i64 x.n) := (b1.cell 1).trans rfl
      have W1 := hide hW1
      have BW := hide ((((Gr.refl w).alloc (.cells #[.int .i64 x.o, .int .i64 x.n] 36)).trans hg).drew).below
      clear hW1 hg b1
      go_wp2_with fail
      refine wp_region_tail 9 mixed (by kernel_rfl) ?_
      simp only [List.take_succ_cons, List.take_zero, List.drop_succ_cons, List.drop_zero]
      repeat still_step
      refine wpStill_nil ?_
      go_wp2_with (at_mapUpdate; go_must (refine wpList_put_map _ rfl _ _ _ 65 rfl id_law Try.underlying65 rfl W1.out.drew.map (keyV x.o x.n) x.val _ rfl rfl K.out ?_); intro w2 hm2 hg2 _; have M2 := hide hm2; have G2 := hide hg2; clear hm2 hg2)
      go_ret
      have hm := M2.out
      rw [putL_entry] at hm
      exact ⟨rfl, W1.out.drew.set_ G2.out hm OK.out, only_trans (only_of_below BW.out _) G2.out⟩

end Go.Proofs.Ytflalllbplcgbaa
