/-
  Chapter 21: slices.Delete and slices.Clone at items.
-/
import Derived.Test.YtioehmlaaimeaaaW2
namespace Go.Proofs.Ytioehmlaaimeaaa
open Go.RowKit

theorem item_zero (w : World) : (zeroValue 33).run Try.prog w = .ok It.z.val w := by kernel_rfl

set_option maxHeartbeats 1000000 in
theorem delete_any (base g cap i : Nat) (l : List It) (w : World) (h : w.ownsRow base 33 4 (.slice (some ⟨g, 0, none⟩) l.length cap) l.length (cellsOf l)) (hi : i < l.length) (hc : l.length ≤ cap) (hl : l.length ≤ 512) :
    Calls Try.prog 26 #[.slice (some ⟨g, 0, none⟩) l.length cap, .int .i64 i, .int .i64 (i + 1 : Int)] w fun e w' => e = .returned (.slice (some ⟨g, 0, none⟩) (l.length - 1) cap) ∧
      w'.ownsRow base 33 4 (.slice (some ⟨g, 0, none⟩) (l.length - 1) cap) (l.length - 1) (cellsOf (l.take i ++ l.drop (i + 1))) ∧ w.grownBy w' (some g) := by
  obtain ⟨i0, hi0, hz0, hz1, hz2⟩ := info_parts item_info
  have k1 : (i : Int) + 1 ≤ l.length := by omega
  have k2 : (l.length : Int) ≤ cap := by omega
  have k3 : (i : Int) ≤ cap := by omega
  have k5 : (0 : Int) ≤ (i : Int) + 1 := by omega
  have k6 : (i : Int) ≤ (i : Int) + 1 := by omega
  have hz3 := cells_one It.z
  have HZ := hide hz3
  have e1 : i + (l.length - (i + 1)) = l.length - 1 := by omega
  have hres : (cellsOf l).take (i * 4) ++ cellsOf (l.drop (i + 1)) = cellsOf (l.take i ++ l.drop (i + 1)) := by rw [cellsOf_take l i (by omega), cellsOf_append]
  have HRES := hide hres
  have E1 := hide e1
  clear hz3 hres
  have k4 : ((i : Int) + 1).toNat = i + 1 := by omega
  have hne : ((i : Int) == (i : Int) + 1) = false := beq_false_of_ne (by omega)
  have ht := hide (own_cut h i (by omega) (by simp))
  have hr := hide (Reads.of_own h)
  rcases Nat.lt_or_ge (i + 1) cap with hcap | hcap
  · have hcap2 : ¬ cap = i + 1 := by omega
    have HR1 : Hid (∀ j u, (cellsOf (l.drop (i + 1)))[j]? = some u → w.drew.cell? ((⟨g, (i + 1) * 4, none⟩ : Addr).add j) = some u) := hide (by
      intro j u hu
      rw [← cellsOf_drop l (i + 1) (by omega), List.getElem?_drop] at hu
      obtain ⟨ad, e, _, hcell⟩ := hr.out.2 (by omega)
      injection e with e
      subst e
      have := hcell _ u hu
      rwa [show (⟨g, 0, none⟩ : Addr).add ((i + 1) * 4 + j) = (⟨g, (i + 1) * 4, none⟩ : Addr).add j by unfold Addr.add; split <;> split <;> simp_all] at this)
    go_enter Try.func26, Try.ntmps26
    go_wp2
    refine wp_region_tail 6 mixed (by kernel_rfl) ?_
    simp only [List.take_succ_cons, List.take_zero, List.drop_succ_cons, List.drop_zero]
    repeat still_step
    refine wpStill_nil ?_
    go_wp2_with (at_builtin; refine wpList_append_fits _ rfl (.tmp 22) (.tmp 25) 55 rfl base 33 i0 4 Try.underlying55 hi0 hz1 g i cap _ rfl ht.out _ (l.length - (i + 1)) _ (cellsOf (l.drop (i + 1))) rfl (by rw [cellsOf_len, List.length_drop]) HR1.out (cellsOf_oneCell _) (by omega) ?_; intro w1 hown1 hgr1; rw [HRES.out, E1.out] at hown1; have O1 := hide hown1; have G1 := hide hgr1; clear hown1 hgr1; obtain ⟨w2, hrun, hown2, hgr2, hsz2⟩ := run_clear_own (P := Try.prog) (size := 4) 55 0 It.z.val Try.underlying55 item_zero rfl HZ.out (A := some ⟨g, (l.length - 1) * 4, none⟩) (m := l.length - (l.length - 1)) (c := cap - (l.length - 1)) O1.out (fun _ => rfl) (by omega); have O2 := hide hown2; have G2 := hide hgr2; clear hown2 hgr2 hsz2)
    go_ret
    exact ⟨rfl, O2.out, only_trans (only_undrew G1.out) G2.out⟩
  · have hcap2 : cap = i + 1 := by omega
    subst hcap2
    have hn0 : l.length - (i + 1) = 0 := by omega
    have hn1 : l.length - 1 = i := by omega
    have hown2 : w.drew.ownsRow base 33 4 (.slice (some ⟨g, 0, none⟩) i (i + 1)) i (cellsOf (l.take i ++ l.drop (i + 1))) := by
      rw [List.drop_of_length_le (by omega), List.append_nil, ← cellsOf_take l i (by omega)]
      exact ht.out
    obtain ⟨w2, hrun, hown3, hgr3, hsz3⟩ := run_clear_own (P := Try.prog) (size := 4) 55 0 It.z.val Try.underlying55 item_zero rfl HZ.out (A := some ⟨g, i * 4, none⟩) (m := l.length - i) (c := 1) hown2 (fun _ => rfl) (by omega)
    have O2 := hide hown3
    have G2 := hide hgr3
    rw [hn1]
    clear hown2 hown3 hgr3 hsz3 HRES ht
    go_enter Try.func26, Try.ntmps26
    go_wp2
    refine wp_region_tail 6 mixed (by kernel_rfl) ?_
    simp only [List.take_succ_cons, List.take_zero, List.drop_succ_cons, List.drop_zero]
    repeat still_step
    refine wpStill_nil ?_
    go_wp2
    go_ret
    exact ⟨rfl, O2.out, only_undrew G2.out⟩

set_option maxHeartbeats 1000000 in
theorem clone_any (base : Nat) (v : Value) (l : List It) (w : World) (h : w.ownsRow base 33 4 v l.length (cellsOf l)) (hl : l.length ≤ 512) :
    Calls Try.prog 29 #[v] w fun e w' => ∃ v', e = .returned v' ∧ w'.ownsRow w.heap.size 33 4 v' l.length (cellsOf l) ∧ Below w.heap.size w w' := by
  obtain ⟨i0, hi0, hz0, hz1, hz2⟩ := info_parts item_info
  have hnil := fun (w : World) (a : Option Addr) (n c : Nat) => Go.Lib.run_eql_slice_nil w 55 33 a n c 0 0 Try.underlying55
  rcases h.2 with ⟨rfl, h0⟩ | ⟨g, cap, cur, rfl, hb, hg, hc, hm, hs, ht⟩
  · have hl0 : l = [] := List.eq_nil_of_length_eq_zero h0
    subst hl0
    go_enter Try.func29, Try.ntmps29
    go_wp2
    go_ret
    exact ⟨_, rfl, World.ownsRow_nil _ _ _ _, Below.refl _ _⟩
  · have H := hide h
    clear h hg ht hs
    have ow := World.ownsRow_lit (base := w.heap.size) (size := 4) (e := 33) w #[] 0 (Nat.le_refl _) (by simp [maxLen]) rfl
    have OW := hide ow
    have RD := hide ((Reads.of_own H.out).alloc (Nat.le_refl _) (.cells #[] 33))
    have BL := hide ((Below.refl w.heap.size w).alloc (Nat.le_refl _) (.cells #[] 33))
    clear ow
    go_enter Try.func29, Try.ntmps29
    go_wp2_with (at_builtin; go_loud (refine wpList_append_any _ rfl (.tmp 5) (.tmp 6) 55 rfl w.heap.size 33 i0 _ 4 40 Try.underlying55 hi0 hz0 hz1 hz2 rfl (by omega) _ 0 [] rfl OW.out _ _ l.length cap (cellsOf l) rfl RD.out (cellsOf_oneCell l) (by simp only [maxLen]; omega) (by omega) (by simp) ?_); go_loud (intro v1 w1 hown0 hgr hv0); go_loud (have hown1 : w1.ownsRow w.heap.size 33 4 v1 l.length (cellsOf l) := by simpa using hown0); go_loud (obtain ⟨A2, cap2, rfl⟩ := own_slice hown1); go_loud (have O1 := hide hown1); go_loud (have B1 := hide (BL.out.grown hgr (by simp) (fun g hg => by injection hg with hg; exact Nat.le_of_eq hg)); clear hown0 hown1 hgr hv0))
    go_ret
    exact ⟨_, rfl, O1.out, B1.out⟩

end Go.Proofs.Ytioehmlaaimeaaa
