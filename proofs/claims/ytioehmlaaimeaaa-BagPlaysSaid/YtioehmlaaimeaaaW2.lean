/-
  Chapter 21: Put, in the program's text and in the document's.
-/
import Derived.Test.YtioehmlaaimeaaaW1
import Derived.Test.YtioehmlaaimeaaaD
import Derived.Deep.RegionLaw
namespace Go.Proofs.Ytioehmlaaimeaaa
open Go.RowKit

theorem item_info : (Try.prog.info? 33).map (fun i => (i.zero, i.size, i.bytes)) = some (some It.z.val, 4, 40) := by kernel_rfl
theorem ritem_info : (Try.prog.info? 38).map (fun i => (i.zero, i.size, i.bytes)) = some (some It.z.val, 4, 40) := by kernel_rfl

theorem who_is (n : Int) (r : Bool) (w : World) (h : (decide (1 ≤ n) && decide (n ≤ 7)) = r) : Calls Try.prog 28 #[.int .i64 n] w fun e w' => e = .returned (.bool r) ∧ w = w' := h ▸ who_any n w

set_option maxHeartbeats 1000000 in
theorem put_bad (base b : Nat) (v : Value) (l : List It) (room : Int) (x : It) (w : World) (hm : mayI x = false) :
    Calls Try.prog 17 #[.pointer (some ⟨b, 0, none⟩), x.val] w fun e w' => e = .returned (.int .i64 1) ∧ Below w.heap.size w w' := by
  have hb := (Below.refl w.heap.size w).alloc (Nat.le_refl _) (.cells #[Value.int IntKind.i64 x.fr, Value.int IntKind.i64 x.to, Value.string x.by_, Value.int IntKind.u64 x.at_] 33)
  have HB := hide hb
  clear hb
  by_cases f : (decide (1 ≤ x.fr) && decide (x.fr ≤ 7)) = true
  · by_cases t : (decide (1 ≤ x.to) && decide (x.to ≤ 7)) = true
    · by_cases z : x.by_.size = 0
      · have he : x.by_.toList.isEmpty = true := by rw [isEmpty_size]; simp [z]
        have F := hide f
        have T := hide t
        clear f t z hm
        go_enter Try.func17, Try.ntmps17
        go_wp2_with (go_at_call 28; refine (who_is _ _ _ (by first | exact F.out | exact T.out)).mono ?_; rintro e w' ⟨rfl, rfl⟩)
        go_ret
        exact ⟨rfl, HB.out⟩
      · have he : x.by_.toList.isEmpty = false := by rw [isEmpty_size]; simp [z]
        have hs : (8192 : Int) < x.by_.size := by simp [mayI, f, t] at hm; omega
        have F := hide f
        have T := hide t
        clear f t z hm
        go_enter Try.func17, Try.ntmps17
        go_wp2_with (go_at_call 28; refine (who_is _ _ _ (by first | exact F.out | exact T.out)).mono ?_; rintro e w' ⟨rfl, rfl⟩)
        go_ret
        exact ⟨rfl, HB.out⟩
    · simp only [Bool.not_eq_true] at t
      have F := hide f
      have T := hide t
      clear f t hm
      go_enter Try.func17, Try.ntmps17
      go_wp2_with (go_at_call 28; refine (who_is _ _ _ (by first | exact F.out | exact T.out)).mono ?_; rintro e w' ⟨rfl, rfl⟩)
      go_ret
      exact ⟨rfl, HB.out⟩
  · simp only [Bool.not_eq_true] at f
    have F := hide f
    clear f hm
    go_enter Try.func17, Try.ntmps17
    go_wp2_with (go_at_call 28; refine (who_is _ _ _ F.out).mono ?_; rintro e w' ⟨rfl, rfl⟩)
    go_ret
    exact ⟨rfl, HB.out⟩

set_option maxHeartbeats 2000000 in
theorem put_may (base b : Nat) (v : Value) (l : List It) (room : Int) (x : It) (w : World) (h : IsB w base b v l room) (hm : mayI x = true) (hb0 : base ≤ w.heap.size) :
    Calls Try.prog 17 #[.pointer (some ⟨b, 0, none⟩), x.val] w fun e w' => e = .returned (.int .i64 (putE l room x)) ∧ ∃ v', IsB w' base b v' (putL l room x) room ∧ Ap w w' b v ∧ Nw w v v' := by
  obtain ⟨i0, hi0, hz0, hz1, hz2⟩ := info_parts item_info
  have hE : putE l room x = if (l.length : Int) < room then 0 else 4 := if_pos hm
  simp only [mayI, Bool.and_eq_true] at hm
  obtain ⟨⟨⟨⟨f1, f2⟩, t1, t2⟩, z⟩, s⟩ := hm
  have F : Hid ((decide (1 ≤ x.fr) && decide (x.fr ≤ 7)) = true) := hide (by rw [f1, f2]; rfl)
  have T : Hid ((decide (1 ≤ x.to) && decide (x.to ≤ 7)) = true) := hide (by rw [t1, t2]; rfl)
  have he : x.by_.toList.isEmpty = false := by have := of_decide_eq_true z; rw [isEmpty_size]; exact decide_eq_false (by omega)
  have hs : (x.by_.size : Int) ≤ 8192 := by have := of_decide_eq_true s; omega
  have hlb := h.lt
  have h1 := h.alloc (.cells #[Value.int IntKind.i64 x.fr, Value.int IntKind.i64 x.to, Value.string x.by_, Value.int IntKind.u64 x.at_] 33)
  have a1 : Ap w (w.alloc (.cells #[Value.int IntKind.i64 x.fr, Value.int IntKind.i64 x.to, Value.string x.by_, Value.int IntKind.u64 x.at_] 33)) b v := (Ap.refl w b v).alloc _
  have H1 := hide h1
  have A1 := hide a1
  obtain ⟨A, cap, rfl⟩ := h.slice
  have c0 := (h1.blk.cell 0).trans rfl
  have c1 := (h1.blk.cell 1).trans rfl
  have k0 := (Blk.new w 33 #[Value.int IntKind.i64 x.fr, Value.int IntKind.i64 x.to, Value.string x.by_, Value.int IntKind.u64 x.at_])
  have hl := h.lr
  have h5 := h.r2
  have hfull : ((l.length : Int) < room) ∨ room ≤ (l.length : Int) := by omega
  have HW := hide hb0
  clear f1 f2 t1 t2 z s h h1 a1 hb0
  rcases hfull with hr | hr
  · rw [if_pos hr] at hE
    rw [hE]
    have hL : putL l room x = l ++ [x] := by rw [putL, hE]; rfl
    rw [hL]
    clear hE hL
    go_enter Try.func17, Try.ntmps17
    go_wp2_with (go_at_call 28; refine (who_is _ _ _ (by first | exact F.out | exact T.out)).mono ?_; rintro e w' ⟨rfl, rfl⟩)
    go_quiet (fail)
    go_wp2
    go_region_law (refine step_append_any _ rfl (.tmp 45) (.tmp 47) 55 rfl base 33 i0 _ 4 40 Try.underlying55 hi0 hz0 hz1 hz2 rfl (by omega) _ l.length (cellsOf l) rfl ((H1.out.drewN _).alloc _).own _ _ 1 1 x.cells rfl (Reads.newAt (by simp) 1 4 rfl rfl) (cells_one x) (by simp only [maxLen]; omega) (by omega) (by have := HW.out; simp; omega) ?_; intro v1 w1 hown1 hgr hv0; obtain ⟨A2, cap2, rfl⟩ := own_slice hown1; have hA := hide ((H1.out.drewN (nq + 1)).alloc (.cells #[Value.int IntKind.i64 x.fr, Value.int IntKind.i64 x.to, Value.string x.by_, Value.int IntKind.u64 x.at_] 33)); have hv1 := hide hv0; have hown := hide hown1; have hg := hide hgr; have hB := hide (hA.out.blk.grown hgr (fun e => hA.out.ne (by decide) e.symm)); have f0 := hB.out.frozen 0; have d0 := (hB.out.cell 0).trans rfl; clear hv0 hown1 hgr c0 c1 k0)
    all_goals
      go_wp2
      have P1 := (hA.out.push (by decide) (l' := l ++ [x]) (by simp; omega) (by rw [List.length_append, cellsOf_append, cellsOf_one]; exact hown.out) hg.out (by
        rcases hv1.out with h | h
        · exact .inl h
        · exact .inr (fun g hg => by rw [h] at hg; injection hg with hg; omega)))
      go_ret
      exact ⟨rfl, _, P1.1, ((A1.out.drewN (nq + 1)).alloc _).trans P1.2.1 (Nw.refl _ _), P1.2.2.mono (by simp; omega)⟩
  · rw [if_neg (by omega)] at hE
    rw [hE]
    have hL : putL l room x = l := by rw [putL, hE]; rfl
    rw [hL]
    clear hE hL
    go_enter Try.func17, Try.ntmps17
    go_wp2_with (go_at_call 28; refine (who_is _ _ _ (by first | exact F.out | exact T.out)).mono ?_; rintro e w' ⟨rfl, rfl⟩)
    go_quiet (fail)
    go_wp2
    go_ret
    exact ⟨rfl, _, H1.out.drewN nq, A1.out.drewN nq, Nw.refl _ _⟩

end Go.Proofs.Ytioehmlaaimeaaa
