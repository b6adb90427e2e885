/-
  Chapter 21: Oldest, in the program's text and in the document's.
-/
import Derived.Test.YtioehmlaaimeaaaW8
import Derived.Test.YtioehmlaaimeaaaW7
namespace Go.Proofs.Ytioehmlaaimeaaa
open Go.RowKit
set_option linter.unusedVariables false

set_option maxRecDepth 100000 in
set_option maxHeartbeats 4000000 in
theorem oldest_any (base b : Nat) (v : Value) (l : List It) (room : Int) (w : World) (h : IsB w base b v l room) :
    Calls Try.prog 20 #[.pointer (some ⟨b, 0, none⟩)] w fun e w' => e = .returned (.tuple #[(oldR l).1.val, .bool (oldR l).2]) ∧ Below w.heap.size w w' := by
  have HB := hide h
  have hlt := h.lt
  have hl := h.lr
  have h5 := h.r2
  clear h
  go_enter Try.func20, Try.ntmps20
  go_wp2_with fail
  refine wp_scope_ghost 0 (fun m a' w' => ∃ (i : Nat) (x : It) (ok : Bool) (u1 u5 u6 u7 u8 u9 u10 u11 u12 u13 u14 u15 u16 u17 u18 u19 u20 u21 u22 u23 u24 u25 u26 u27 u28 u29 u30 u31 u32 u33 u34 u35 u36 u37 : Value), i ≤ l.length ∧ m = l.length + 1 - i ∧ oldR (l.take i) = (x, ok) ∧ Blk w' w.heap.size 33 (#[Value.int IntKind.i64 x.fr, Value.int IntKind.i64 x.to, Value.string x.by_, Value.int IntKind.u64 x.at_]) ∧ Below w.heap.size w w' ∧
      a' = ⟨#[.pointer (some ⟨b, 0, none⟩), u1, .pointer (some ⟨w.heap.size, 0, none⟩), .bool ok, .int .i64 (i : Int), u5, u6, u7, u8, u9, u10, u11, u12, u13, u14, u15, u16, u17, u18, u19, u20, u21, u22, u23, u24, u25, u26, u27, u28, u29, u30, u31, u32, u33, u34, u35, u36, u37], []⟩) rfl ?_ ?_
  · intro J hJ hpass
    go_wp2_with fail
    go_step3
    go_step
    go_step
    exact hpass _ _ _ ⟨0, It.z, false, _, _, _, _, _, _, _, _, _, _, _, _, _, _, _, _, _, _, _, _, _, _, _, _, _, _, _, _, _, _, _, _, _, _, by omega, rfl, rfl, Blk.new _ _ _, (Below.refl _ _).alloc (Nat.le_refl _) _, rfl⟩
  · rintro m a' w' ⟨i, x, ok, u1, u5, u6, u7, u8, u9, u10, u11, u12, u13, u14, u15, u16, u17, u18, u19, u20, u21, u22, u23, u24, u25, u26, u27, u28, u29, u30, u31, u32, u33, u34, u35, u36, u37, hi, rfl, hs, hblk, hbel, rfl⟩ J hJ
    have hs := hs.symm
    have IB := hide (HB.out.below hbel)
    have BE := hide hbel
    have BK := hide hblk
    have hlt' := IB.out.lt
    obtain ⟨A, cap, hv⟩ := IB.out.slice
    have c0 := (IB.out.blk.cell 0).trans rfl
    rw [hv] at c0
    have k0 := (hblk.cell 0).trans rfl
    have k1 := (hblk.cell 1).trans rfl
    have k2 := (hblk.cell 2).trans rfl
    have k3 := (hblk.cell 3).trans rfl
    have y0 := hblk.frozen 0
    have y1 := hblk.frozen 1
    have y2 := hblk.frozen 2
    have y3 := hblk.frozen 3
    have HS := hide hs
    have HV := hide hv
    have hok := congrArg Prod.snd hs
    rw [oldR_ok, List.length_take, Nat.min_eq_left hi] at hok
    simp only at hok
    clear hblk hbel hs hv
    rcases Nat.lt_or_ge i l.length with hlt2 | hge
    · obtain ⟨g, cap2, hv2, _, hg2, hc1, hc2⟩ := IB.out.shape' (by omega)
      rw [HV.out] at hv2
      obtain ⟨e0, e1, e2, e3⟩ := IB.out.cells4 hlt2 (HV.out.trans hv2)
      injection hv2 with hv3 _ hv4
      subst hv3 hv4
      obtain ⟨y, hy⟩ : ∃ y, y = itAt l i := ⟨_, rfl⟩
      rw [← hy] at e0 e1 e2 e3
      have j1 : (i : Int) < l.length := by omega
      have hgne : g ≠ w.heap.size := by
        have := (HB.out.old (Nat.le_refl w.heap.size)).2
        intro e
        apply this
        rw [HV.out, e]
        rfl
      have j2 : ((i : Int) == l.length) = false := beq_false_of_ne (by omega)
      have HY := hide hy
      clear hy
      rcases Nat.eq_zero_or_pos i with hz | hpos
      · obtain rfl : ok = false := by rw [hok]; simp [hz]
        clear hok
        subst hz
        rw [Nat.zero_mul] at e0 e1 e2 e3
        rw [Nat.zero_add] at e1 e2 e3
        go_wp2_with fail
        go_quiet (fail)
        go_wp2_with fail
        go_step3
        refine jump_goto ?_
        have nb : Blk (((((w'.drewN nq).setCell ⟨w.heap.size, 0, none⟩ (.int .i64 y.fr)).setCell ⟨w.heap.size, 1, none⟩ (.int .i64 y.to)).setCell ⟨w.heap.size, 2, none⟩ (.string y.by_)).setCell ⟨w.heap.size, 3, none⟩ (.int .u64 y.at_)) w.heap.size 33 (#[Value.int IntKind.i64 y.fr, Value.int IntKind.i64 y.to, Value.string y.by_, Value.int IntKind.u64 y.at_]) := by
          have := (((((BK.out.drewN nq).set_ 0 (.int .i64 y.fr)).set_ 1 (.int .i64 y.to)).set_ 2 (.string y.by_)).set_ 3 (.int .u64 y.at_))
          simpa using this
        have nl := ((((below_drewN BE.out nq).setCell (p := ⟨w.heap.size, 0, none⟩) (Nat.le_refl _) (.int .i64 y.fr)).setCell (p := ⟨w.heap.size, 1, none⟩) (Nat.le_refl _) (.int .i64 y.to)).setCell (p := ⟨w.heap.size, 2, none⟩) (Nat.le_refl _) (.string y.by_)).setCell (p := ⟨w.heap.size, 3, none⟩) (Nat.le_refl _) (.int .u64 y.at_)
        exact hJ _ _ ⟨_, by omega, 1, y, true, _, _, _, _, _, _, _, _, _, _, _, _, _, _, _, _, _, _, _, _, _, _, _, _, _, _, _, _, _, _, _, _, _, _, by omega, rfl, by rw [take_succ_it l 0 (by omega), oldR_snoc, ← HS.out, ← HY.out]; simp [oldS], nb, nl, rfl⟩
      · obtain rfl : ok = true := by rw [hok]; simp [hpos]
        clear hok
        by_cases hlt3 : y.at_ < x.at_
        · go_wp2_with fail
          go_quiet (fail)
          go_wp2_with fail
          go_step3
          refine jump_goto ?_
          have nb : Blk (((((w'.drewN nq).setCell ⟨w.heap.size, 0, none⟩ (.int .i64 y.fr)).setCell ⟨w.heap.size, 1, none⟩ (.int .i64 y.to)).setCell ⟨w.heap.size, 2, none⟩ (.string y.by_)).setCell ⟨w.heap.size, 3, none⟩ (.int .u64 y.at_)) w.heap.size 33 (#[Value.int IntKind.i64 y.fr, Value.int IntKind.i64 y.to, Value.string y.by_, Value.int IntKind.u64 y.at_]) := by
            have := (((((BK.out.drewN nq).set_ 0 (.int .i64 y.fr)).set_ 1 (.int .i64 y.to)).set_ 2 (.string y.by_)).set_ 3 (.int .u64 y.at_))
            simpa using this
          have nl := ((((below_drewN BE.out nq).setCell (p := ⟨w.heap.size, 0, none⟩) (Nat.le_refl _) (.int .i64 y.fr)).setCell (p := ⟨w.heap.size, 1, none⟩) (Nat.le_refl _) (.int .i64 y.to)).setCell (p := ⟨w.heap.size, 2, none⟩) (Nat.le_refl _) (.string y.by_)).setCell (p := ⟨w.heap.size, 3, none⟩) (Nat.le_refl _) (.int .u64 y.at_)
          have ns : oldS (x, true) y = (y, true) := if_pos (by simp; omega)
          exact hJ _ _ ⟨_, by omega, i + 1, y, true, _, _, _, _, _, _, _, _, _, _, _, _, _, _, _, _, _, _, _, _, _, _, _, _, _, _, _, _, _, _, _, _, _, _, by omega, rfl, by rw [take_succ_it l i (by omega), oldR_snoc, ← HS.out, ← HY.out, ns], nb, nl, rfl⟩
        · go_wp2_with fail
          go_quiet (fail)
          go_wp2_with fail
          go_step3
          refine jump_goto ?_
          have ns : oldS (x, true) y = (x, true) := if_neg (by simp; omega)
          exact hJ _ _ ⟨_, by omega, i + 1, x, true, _, _, _, _, _, _, _, _, _, _, _, _, _, _, _, _, _, _, _, _, _, _, _, _, _, _, _, _, _, _, _, _, _, _, by omega, rfl, by rw [take_succ_it l i (by omega), oldR_snoc, ← HS.out, ← HY.out, ns], BK.out.drewN nq, below_drewN BE.out nq, rfl⟩
    · obtain rfl : i = l.length := by omega
      have j1 : ((l.length : Int) == l.length) = true := by simp
      clear hok
      go_wp2_with fail
      refine jump_ret ?_
      have nb := (((BK.out.set_ 0 (.int .i64 x.fr)).set_ 1 (.int .i64 x.to)).set_ 2 (.string x.by_)).set_ 3 (.int .u64 x.at_)
      have nl := (((BE.out.setCell (p := ⟨w.heap.size, 0, none⟩) (Nat.le_refl _) (.int .i64 x.fr)).setCell (p := ⟨w.heap.size, 1, none⟩) (Nat.le_refl _) (.int .i64 x.to)).setCell (p := ⟨w.heap.size, 2, none⟩) (Nat.le_refl _) (.string x.by_)).setCell (p := ⟨w.heap.size, 3, none⟩) (Nat.le_refl _) (.int .u64 x.at_)
      have r0 := (nb.cell 0).trans rfl
      have r1 := (nb.cell 1).trans rfl
      have r2 := (nb.cell 2).trans rfl
      have r3 := (nb.cell 3).trans rfl
      have hs2 := HS.out
      rw [List.take_length] at hs2
      have q1 : (oldR l).1 = x := by rw [← hs2]
      have q2 : (oldR l).2 = ok := by rw [← hs2]
      refine bodyPost_ret (v := .tuple #[x.val, .bool ok]) (by simp [results, Try.results20, go_sem, r0, r1, r2, r3]) rfl ⟨by rw [q1, q2], nl⟩

/-- The place of the oldest among the first i. -/
def oldK (l : List It) : Nat → Nat
  | 0 => 0
  | i + 1 => if (itAt l i).at_ < (itAt l (oldK l i)).at_ then i else oldK l i
theorem oldK_lt (l : List It) (i : Nat) (hi : i ≤ l.length) (h0 : 0 < l.length) : oldK l i < l.length := by
  induction i with
  | zero => exact h0
  | succ i ih =>
    simp only [oldK]
    split
    · omega
    · exact ih (by omega)
theorem oldK_R (l : List It) (i : Nat) (hi : i ≤ l.length) (h0 : 0 < i) : oldR (l.take i) = (itAt l (oldK l i), true) := by
  induction i with
  | zero => omega
  | succ i ih =>
    rw [take_succ_it l i (by omega), oldR_snoc]
    rcases Nat.eq_zero_or_pos i with rfl | hp
    · have e : oldK l (0 + 1) = 0 := by
        show (if (itAt l 0).at_ < (itAt l (oldK l 0)).at_ then 0 else oldK l 0) = 0
        split <;> rfl
      rw [e]
      simp [oldR, oldS]
    · rw [ih (by omega) hp]
      simp only [oldK]
      split
      · rename_i h
        exact if_pos (by simp [h])
      · rename_i h
        exact if_neg (by simp; omega)

set_option maxRecDepth 100000 in
set_option maxHeartbeats 4000000 in
theorem roldest_any (base b : Nat) (v : Value) (l : List It) (room : Int) (w : World) (h : IsR w base b v l room) :
    Calls Try.prog 21 #[.pointer (some ⟨b, 0, none⟩)] w fun e w' => e = .returned (.tuple #[(oldR l).1.val, .bool (oldR l).2]) ∧ Below w.heap.size w w' := by
  have HB := hide h
  have hlt := h.lt
  have hl := h.lr
  have h5 := h.r2
  have H1 := hide (h.alloc ritB)
  have BZ := hide ((Below.refl w.heap.size w).alloc (Nat.le_refl _) ritB)
  have KZ := hide (Blk.new w 38 #[Value.int IntKind.i64 0, Value.int IntKind.i64 0, Value.string ⟨#[]⟩, Value.int IntKind.u64 0])
  have c0 := (H1.out.blk.cell 0).trans rfl
  by_cases h0 : l.length = 0
  · obtain rfl : l = [] := List.eq_nil_of_length_eq_zero h0
    obtain ⟨A, cap, rfl⟩ := h.slice
    clear h
    go_enter Try.func21, Try.ntmps21
    go_wp2_with fail
    have r0 := (KZ.out.cell 0).trans rfl
    have r1 := (KZ.out.cell 1).trans rfl
    have r2 := (KZ.out.cell 2).trans rfl
    have r3 := (KZ.out.cell 3).trans rfl
    refine bodyPost_ret (v := .tuple #[It.z.val, .bool false]) (by simp [results, Try.results21, go_sem, r0, r1, r2, r3, It.z]) rfl ⟨rfl, BZ.out⟩
  · obtain ⟨g, cap, hv, _, hg2, hc1, hc2⟩ := h.shape' h0
    have hgne : g ≠ w.heap.size := by omega
    have hz : ((l.length : Int) == 0) = false := beq_false_of_ne (by omega)
    subst hv
    clear h
    go_enter Try.func21, Try.ntmps21
    go_wp2_with fail
    go_loopg [4, 5] (l.length + 1) (fun m at_ i wr => ∃ k n : Nat, i = .int .i64 (k : Int) ∧ k ≤ l.length ∧ m = l.length + 1 - k ∧ at_ = .int .i64 ((oldK l k : Nat) : Int) ∧ wr = (w.alloc ritB).drewN n)
    case atStart => exact ⟨0, 0, rfl, by omega, by omega, rfl, rfl⟩
    case round =>
      obtain ⟨k, n, rfl, hk, rfl, rfl, rfl⟩ := hrel
      have hq := oldK_lt l k hk (by omega)
      obtain ⟨q, hqq⟩ : ∃ q, q = oldK l k := ⟨_, rfl⟩
      rw [← hqq] at hq ⊢
      obtain ⟨f0, f1, f2, f3⟩ := H1.out.cells4 hq rfl
      obtain ⟨y, hy⟩ : ∃ y, y = itAt l q := ⟨_, rfl⟩
      rw [← hy] at f0 f1 f2 f3
      have j3 : (q : Int) < l.length := by omega
      have HQ := hide hqq
      have HY := hide hy
      clear hqq hy
      by_cases hlt2 : k < l.length
      · obtain ⟨e0, e1, e2, e3⟩ := H1.out.cells4 hlt2 rfl
        obtain ⟨x, hx⟩ : ∃ x, x = itAt l k := ⟨_, rfl⟩
        rw [← hx] at e0 e1 e2 e3
        have j1 : (k : Int) < l.length := by omega
        have HX := hide hx
        clear hx
        by_cases hlt3 : x.at_ < y.at_
        · have HN := hide (by rw [oldK, ← HQ.out, ← HX.out, ← HY.out, if_pos hlt3] : oldK l (k + 1) = k)
          go_wp2_with fail
          go_quiet (fail)
          go_wp2_with fail
          go_roundg (l.length + 1 - (k + 1))
          case measure => omega
          case rel => exact ⟨k + 1, n + nq, by go_num, by omega, rfl, by rw [HN.out], by simp⟩
        · have hlt4 : y.at_ ≤ x.at_ := by omega
          have HN := hide (by rw [oldK, ← HQ.out, ← HX.out, ← HY.out, if_neg hlt3] : oldK l (k + 1) = q)
          clear hlt3
          go_wp2_with fail
          go_quiet (fail)
          go_wp2_with fail
          go_roundg (l.length + 1 - (k + 1))
          case measure => omega
          case rel => exact ⟨k + 1, n + nq, by go_num, by omega, rfl, by rw [HN.out], by simp⟩
      · obtain rfl : k = l.length := by omega
        have hR := oldK_R l l.length (Nat.le_refl _) (by omega)
        rw [List.take_length, ← HQ.out, ← HY.out] at hR
        have HR := hide hR
        have z0 := (KZ.out.cell 0).trans rfl
        have z1 := (KZ.out.cell 1).trans rfl
        have z2 := (KZ.out.cell 2).trans rfl
        have z3 := (KZ.out.cell 3).trans rfl
        have y0 := KZ.out.frozen 0
        have y1 := KZ.out.frozen 1
        have y2 := KZ.out.frozen 2
        have y3 := KZ.out.frozen 3
        clear hR
        go_wp2_with fail
        have nb := ((((KZ.out.drewN n).set_ 0 (.int .i64 y.fr)).set_ 1 (.int .i64 y.to)).set_ 2 (.string y.by_)).set_ 3 (.int .u64 y.at_)
        have nl := ((((below_drewN BZ.out n).setCell (p := ⟨w.heap.size, 0, none⟩) (Nat.le_refl _) (.int .i64 y.fr)).setCell (p := ⟨w.heap.size, 1, none⟩) (Nat.le_refl _) (.int .i64 y.to)).setCell (p := ⟨w.heap.size, 2, none⟩) (Nat.le_refl _) (.string y.by_)).setCell (p := ⟨w.heap.size, 3, none⟩) (Nat.le_refl _) (.int .u64 y.at_)
        have r0 := (nb.cell 0).trans rfl
        have r1 := (nb.cell 1).trans rfl
        have r2 := (nb.cell 2).trans rfl
        have r3 := (nb.cell 3).trans rfl
        refine bodyPost_ret (v := .tuple #[y.val, .bool true]) (by simp [results, Try.results21, go_sem, r0, r1, r2, r3]) rfl ⟨by rw [HR.out], nl⟩

end Go.Proofs.Ytioehmlaaimeaaa
