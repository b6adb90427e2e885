/-
  Chapter 21: Put, in the document's text.
-/
import Derived.Test.YtioehmlaaimeaaaW2
namespace Go.Proofs.Ytioehmlaaimeaaa
open Go.RowKit

set_option maxHeartbeats 1000000 in
theorem rput_bad (base b : Nat) (x : It) (w : World) (hm : mayI x = false) :
    Calls Try.prog 19 #[.pointer (some ⟨b, 0, none⟩), x.val] w fun e w' => e = .returned (.int .i64 1) ∧ Below w.heap.size w w' := by
  have HB := hide ((Below.refl w.heap.size w).alloc (Nat.le_refl _) (.cells #[Value.int IntKind.i64 x.fr, Value.int IntKind.i64 x.to, Value.string x.by_, Value.int IntKind.u64 x.at_] 38))
  have h : x.fr < 1 ∨ (1 ≤ x.fr ∧ 7 < x.fr) ∨ ((1 ≤ x.fr ∧ x.fr ≤ 7) ∧ x.to < 1) ∨ ((1 ≤ x.fr ∧ x.fr ≤ 7) ∧ 1 ≤ x.to ∧ 7 < x.to) ∨ ((1 ≤ x.fr ∧ x.fr ≤ 7) ∧ (1 ≤ x.to ∧ x.to ≤ 7) ∧ x.by_.size = 0) ∨ ((1 ≤ x.fr ∧ x.fr ≤ 7) ∧ (1 ≤ x.to ∧ x.to ≤ 7) ∧ 1 ≤ x.by_.size ∧ 8192 < x.by_.size) := by
    simp only [mayI, Bool.and_eq_false_iff, decide_eq_false_iff_not] at hm
    omega
  clear hm
  rcases h with h1 | ⟨h1, h2⟩ | ⟨⟨h1, h2⟩, h3⟩ | ⟨⟨h1, h2⟩, h3, h4⟩ | ⟨⟨h1, h2⟩, ⟨h3, h4⟩, z⟩ | ⟨⟨h1, h2⟩, ⟨h3, h4⟩, z1, z⟩
  · go_enter Try.func19, Try.ntmps19
    go_wp2
    go_ret
    exact ⟨rfl, HB.out⟩
  · go_enter Try.func19, Try.ntmps19
    go_wp2
    go_ret
    exact ⟨rfl, HB.out⟩
  · go_enter Try.func19, Try.ntmps19
    go_wp2
    go_ret
    exact ⟨rfl, HB.out⟩
  · go_enter Try.func19, Try.ntmps19
    go_wp2
    go_ret
    exact ⟨rfl, HB.out⟩
  · have he : x.by_.toList.isEmpty = true := by rw [isEmpty_size]; simp [z]
    clear z
    go_enter Try.func19, Try.ntmps19
    go_wp2
    go_ret
    exact ⟨rfl, HB.out⟩
  · have he : x.by_.toList.isEmpty = false := by rw [isEmpty_size]; exact decide_eq_false (by omega)
    have z2 : (8192 : Int) < x.by_.size := by omega
    clear z z1
    go_enter Try.func19, Try.ntmps19
    go_wp2
    go_ret
    exact ⟨rfl, HB.out⟩

set_option maxHeartbeats 2000000 in
theorem rput_may (base b : Nat) (v : Value) (l : List It) (room : Int) (x : It) (w : World) (h : IsR w base b v l room) (hm : mayI x = true) (hb0 : base ≤ w.heap.size) :
    Calls Try.prog 19 #[.pointer (some ⟨b, 0, none⟩), x.val] w fun e w' => e = .returned (.int .i64 (putE l room x)) ∧ ∃ v', IsR w' base b v' (putL l room x) room ∧ Ap w w' b v ∧ Nw w v v' := by
  obtain ⟨i0, hi0, hz0, hz1, hz2⟩ := info_parts ritem_info
  have hE : putE l room x = if (l.length : Int) < room then 0 else 4 := if_pos hm
  simp only [mayI, Bool.and_eq_true, decide_eq_true_eq] at hm
  obtain ⟨⟨⟨⟨f1, f2⟩, t1, t2⟩, z⟩, s⟩ := hm
  have he : x.by_.toList.isEmpty = false := by rw [isEmpty_size]; exact decide_eq_false (by omega)
  have hs : (x.by_.size : Int) ≤ 8192 := by omega
  have hlb := h.lt
  have h1 := h.alloc (.cells #[Value.int IntKind.i64 x.fr, Value.int IntKind.i64 x.to, Value.string x.by_, Value.int IntKind.u64 x.at_] 38)
  have a1 : Ap w (w.alloc (.cells #[Value.int IntKind.i64 x.fr, Value.int IntKind.i64 x.to, Value.string x.by_, Value.int IntKind.u64 x.at_] 38)) b v := (Ap.refl w b v).alloc _
  have H1 := hide h1
  have A1 := hide a1
  obtain ⟨A, cap, rfl⟩ := h.slice
  have c0 := (h1.blk.cell 0).trans rfl
  have c1 := (h1.blk.cell 1).trans rfl
  have hl := h.lr
  have h5 := h.r2
  have hfull : ((l.length : Int) < room) ∨ room ≤ (l.length : Int) := by omega
  have HW := hide hb0
  clear z s h h1 a1 hb0
  rcases hfull with hr | hr
  · rw [if_pos hr] at hE
    rw [hE]
    have hL : putL l room x = l ++ [x] := by rw [putL, hE]; rfl
    rw [hL]
    clear hE hL
    go_enter Try.func19, Try.ntmps19
    go_wp2
    go_quiet (fail)
    go_wp2
    go_region_law (refine step_append_any _ rfl (.tmp 48) (.tmp 50) 52 rfl base 38 i0 _ 4 40 Try.underlying52 hi0 hz0 hz1 hz2 rfl (by omega) _ l.length (cellsOf l) rfl ((H1.out.drewN _).alloc _).own _ _ 1 1 x.cells rfl (Reads.newAt (by simp) 1 4 rfl rfl) (cells_one x) (by simp only [maxLen]; omega) (by omega) (by have := HW.out; simp; omega) ?_; intro v1 w1 hown1 hgr hv0; obtain ⟨A2, cap2, rfl⟩ := own_slice hown1; have hA := hide ((H1.out.drewN (nq + 1)).alloc (.cells #[Value.int IntKind.i64 x.fr, Value.int IntKind.i64 x.to, Value.string x.by_, Value.int IntKind.u64 x.at_] 38)); have hv1 := hide hv0; have hown := hide hown1; have hg := hide hgr; have hB := hide (hA.out.blk.grown hgr (fun e => hA.out.ne (by decide) e.symm)); have f0 := hB.out.frozen 0; have d0 := (hB.out.cell 0).trans rfl; clear hv0 hown1 hgr c0 c1)
    all_goals
      go_wp2
      have P1 := (hA.out.push (by decide) (l' := l ++ [x]) (by simp; omega) (by rw [List.length_append, cellsOf_append, cellsOf_one]; exact hown.out) hg.out (by
        rcases hv1.out with h | h
        · exact .inl h
        · exact .inr (fun g hg => by rw [h] at hg; injection hg with hg; omega)))
      go_ret
      exact ⟨rfl, _, P1.1, ((A1.out.drewN (nq + 1)).alloc _).trans P1.2.1 (Nw.refl _ _), P1.2.2.mono (by simp; omega)⟩
  · rw [if_neg (by omega)] at hE
    rw [hE]
    have hL : putL l room x = l := by rw [putL, hE]; rfl
    rw [hL]
    clear hE hL
    go_enter Try.func19, Try.ntmps19
    go_wp2
    go_quiet (fail)
    go_wp2
    go_ret
    exact ⟨rfl, _, H1.out.drewN nq, A1.out.drewN nq, Nw.refl _ _⟩

theorem put_any (base b : Nat) (v : Value) (l : List It) (room : Int) (x : It) (w : World) (h : IsB w base b v l room) (hb0 : base ≤ w.heap.size) :
    Calls Try.prog 17 #[.pointer (some ⟨b, 0, none⟩), x.val] w fun e w' => e = .returned (.int .i64 (putE l room x)) ∧ ∃ v', IsB w' base b v' (putL l room x) room ∧ Ap w w' b v ∧ Nw w v v' := by
  cases hm : mayI x with
  | true => exact put_may base b v l room x w h hm hb0
  | false =>
    have hE : putE l room x = 1 := by rw [putE, hm]; rfl
    have hL : putL l room x = l := by rw [putL, hE]; rfl
    rw [hE, hL]
    refine (put_bad base b v l room x w hm).mono ?_
    rintro e w' ⟨rfl, hb⟩
    exact ⟨rfl, v, h.below hb, Ap.of_below hb _ _, Nw.refl _ _⟩

theorem rput_any (base b : Nat) (v : Value) (l : List It) (room : Int) (x : It) (w : World) (h : IsR w base b v l room) (hb0 : base ≤ w.heap.size) :
    Calls Try.prog 19 #[.pointer (some ⟨b, 0, none⟩), x.val] w fun e w' => e = .returned (.int .i64 (putE l room x)) ∧ ∃ v', IsR w' base b v' (putL l room x) room ∧ Ap w w' b v ∧ Nw w v v' := by
  cases hm : mayI x with
  | true => exact rput_may base b v l room x w h hm hb0
  | false =>
    have hE : putE l room x = 1 := by rw [putE, hm]; rfl
    have hL : putL l room x = l := by rw [putL, hE]; rfl
    rw [hE, hL]
    refine (rput_bad base b x w hm).mono ?_
    rintro e w' ⟨rfl, hb⟩
    exact ⟨rfl, v, h.below hb, Ap.of_below hb _ _, Nw.refl _ _⟩

end Go.Proofs.Ytioehmlaaimeaaa
