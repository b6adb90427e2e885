/-
  Chapter 21: Copy and Last, in the program's text.
-/
import Derived.Test.YtioehmlaaimeaaaW5
namespace Go.Proofs.Ytioehmlaaimeaaa
open Go.RowKit

set_option maxHeartbeats 2000000 in
theorem copy_any (base b : Nat) (v : Value) (l : List It) (room p : Int) (w : World) (h : IsB w base b v l room) (hb0 : base ≤ w.heap.size) :
    Calls Try.prog 13 #[.pointer (some ⟨b, 0, none⟩), .int .i64 p] w fun e w' => e = .returned (.int .i64 (copyE l room p)) ∧ ∃ v', IsB w' base b v' (copyL l room p) room ∧ Ap w w' b v ∧ Nw w v v' := by
  have H := hide h
  by_cases hp : pickE l p = 0
  · have hk := pick_lt hp
    have hl := h.lr
    have h5 := h.r2
    have hE : copyE l room p = putE l room (itAt l (pickN l p)) := by rw [copyE, if_pos hp]
    have hL : copyL l room p = putL l room (itAt l (pickN l p)) := by rw [copyL, if_pos hp]
    rw [hE, hL]
    obtain ⟨g, cap, hv, hg1, hg2, hc1, hc2⟩ := h.shape' (by omega)
    obtain ⟨k, hkk⟩ : ∃ k, k = pickN l p := ⟨_, rfl⟩
    obtain ⟨x, hx⟩ : ∃ x, x = itAt l (pickN l p) := ⟨_, rfl⟩
    have F1 := hide (by have := find_any base b v l room p w H.out; rw [hp, ← hkk] at this; exact this)
    rw [← hkk] at hk
    subst hv
    obtain ⟨e0, e1, e2, e3⟩ := h.cells4 hk rfl
    rw [hkk, ← hx] at e0 e1 e2 e3
    rw [← hkk] at e0 e1 e2 e3
    rw [← hx]
    have c0 := (h.blk.cell 0).trans rfl
    have j1 : (k : Int) < l.length := by omega
    have HB := hide hb0
    clear hE hL hp hkk hx h hb0
    go_enter Try.func13, Try.ntmps13
    go_wp2_with fail
    refine F1.out.mono ?_
    rintro e w' ⟨rfl, rfl⟩
    go_wp2_with fail
    refine (put_any base b _ l room x _ H.out HB.out).mono ?_
    rintro e w' ⟨rfl, v', h1, h2, h3⟩
    have H1 := hide h1
    have H2 := hide h2
    have H3 := hide h3
    clear h1 h2 h3 e0 e1 e2 e3 c0
    go_wp2_with fail
    go_ret
    exact ⟨rfl, _, H1.out, H2.out, H3.out⟩
  · have hE : copyE l room p = pickE l p := by rw [copyE, if_neg hp]
    have hL : copyL l room p = l := by rw [copyL, if_neg hp]
    rw [hE, hL]
    have hz : (pickE l p == 0) = false := beq_false_of_ne hp
    clear hE hL hp h hb0
    go_enter Try.func13, Try.ntmps13
    go_wp2_with fail
    refine (find_any base b v l room p w H.out).mono ?_
    rintro e w' ⟨rfl, rfl⟩
    go_wp2_with fail
    go_ret
    exact ⟨rfl, _, H.out, Ap.refl _ _ _, Nw.refl _ _⟩

set_option maxRecDepth 100000 in
set_option maxHeartbeats 4000000 in
theorem last_any (base b : Nat) (v : Value) (l : List It) (room p : Int) (w : World) (h : IsB w base b v l room) (hb0 : base ≤ w.heap.size) :
    Calls Try.prog 15 #[.pointer (some ⟨b, 0, none⟩), .int .i64 p] w fun e w' => e = .returned (.int .i64 (pickE l p)) ∧ ∃ v', IsB w' base b v' (lastL l p) room ∧ Ap w w' b v ∧ Nw w v v' := by
  have H := hide h
  by_cases hp : pickE l p = 0
  · obtain ⟨i0, hi0, hz0, hz1, hz2⟩ := info_parts item_info
    have hl := h.lr
    have h5 := h.r2
    have hlt := h.lt
    have hlen := takeL_len hp
    have hL : lastL l p = takeL l p ++ [takeX l p] := by rw [lastL, if_pos hp]
    rw [hL]
    obtain ⟨m, hm⟩ : ∃ m, m = takeL l p := ⟨_, rfl⟩
    obtain ⟨x, hx⟩ : ∃ x, x = takeX l p := ⟨_, rfl⟩
    have F1 := hide (by have := take_any base b v l room p w H.out; rw [hp, ← hm, ← hx] at this; exact this)
    rw [← hm] at hlen
    have hm5 : m.length ≤ 511 := by omega
    have hmr : (m.length : Int) + 1 ≤ room := by omega
    clear hlen
    rw [hp, ← hm, ← hx]
    have HB := hide hb0
    clear hL hp hm hx h hb0
    go_enter Try.func15, Try.ntmps15
    go_wp2_with fail
    refine F1.out.mono ?_
    rintro e w1 ⟨rfl, v1, h1, h2, h3⟩
    have H1 := hide (h1.alloc (.cells #[Value.int IntKind.i64 x.fr, Value.int IntKind.i64 x.to, Value.string x.by_, Value.int IntKind.u64 x.at_] 33))
    have A1 := hide (h2.alloc (.cells #[Value.int IntKind.i64 x.fr, Value.int IntKind.i64 x.to, Value.string x.by_, Value.int IntKind.u64 x.at_] 33))
    have N1 := hide h3
    have hl1 := h1.lt
    have S1 := hide h2.size
    obtain ⟨A, cap, rfl⟩ := h1.slice
    have c0 := (H1.out.blk.cell 0).trans rfl
    clear h1 h2 h3
    go_wp2_with fail
    have k0 := (Blk.new w1 33 #[Value.int IntKind.i64 x.fr, Value.int IntKind.i64 x.to, Value.string x.by_, Value.int IntKind.u64 x.at_])
    go_region_law (refine step_append_any _ rfl (.tmp 19) (.tmp 21) 55 rfl base 33 i0 _ 4 40 Try.underlying55 hi0 hz0 hz1 hz2 rfl (by omega) (.slice A m.length cap) m.length (cellsOf m) rfl ((H1.out.drewN 1).alloc _).own _ _ 1 1 x.cells rfl (Reads.newAt (by simp) 1 4 rfl rfl) (cells_one x) (by simp only [maxLen]; omega) (by omega) (by have := HB.out; have := S1.out; simp; omega) ?_; intro v2 w2 hown1 hgr hv0; obtain ⟨A2, cap2, rfl⟩ := own_slice hown1; have hA := hide ((H1.out.drewN 1).alloc (.cells #[Value.int IntKind.i64 x.fr, Value.int IntKind.i64 x.to, Value.string x.by_, Value.int IntKind.u64 x.at_] 33)); have hv1 := hide hv0; have hown := hide hown1; have hg := hide hgr; have hB := hide (hA.out.blk.grown hgr (fun e => hA.out.ne (by decide) e.symm)); have f0 := hB.out.frozen 0; have d0 := (hB.out.cell 0).trans rfl; clear hv0 hown1 hgr c0 k0)
    all_goals
      go_wp2
      have P1 := (hA.out.push (by decide) (l' := m ++ [x]) (by simp; omega) (by rw [List.length_append, cellsOf_append, cellsOf_one]; exact hown.out) hg.out (by
        rcases hv1.out with h | h
        · exact .inl h
        · exact .inr (fun g hg => by rw [h] at hg; injection hg with hg; first | omega | (simp at hg ⊢; omega))))
      go_ret
      exact ⟨rfl, _, P1.1, ((A1.out.drewN 1).alloc _).trans P1.2.1 N1.out, Nw.trans N1.out (P1.2.2.mono (by simp; omega)) S1.out⟩
  · have hL : lastL l p = l := by rw [lastL, if_neg hp]
    have hT : takeL l p = l := by rw [takeL, if_neg hp]
    have hX : takeX l p = It.z := by rw [takeX, if_neg hp]
    have F1 := hide (by have := take_any base b v l room p w H.out; rw [hT, hX] at this; exact this)
    rw [hL]
    have hz : (pickE l p == 0) = false := beq_false_of_ne hp
    clear hL hT hX hp h hb0
    go_enter Try.func15, Try.ntmps15
    go_wp2_with fail
    refine F1.out.mono ?_
    rintro e w1 ⟨rfl, v1, h1, h2, h3⟩
    have H1 := hide h1
    have A1 := hide h2
    have N1 := hide h3
    clear h1 h2 h3
    go_wp2_with fail
    go_ret
    exact ⟨rfl, _, H1.out.alloc _, A1.out.alloc _, N1.out⟩

end Go.Proofs.Ytioehmlaaimeaaa
