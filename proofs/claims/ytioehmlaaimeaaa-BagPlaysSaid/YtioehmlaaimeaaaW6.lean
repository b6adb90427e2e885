/-
  Chapter 21: Take, in the document's text.
-/
import Derived.Test.YtioehmlaaimeaaaW5
namespace Go.Proofs.Ytioehmlaaimeaaa
open Go.RowKit

abbrev ritB : Obj := .cells #[Value.int IntKind.i64 0, Value.int IntKind.i64 0, Value.string ⟨#[]⟩, Value.int IntKind.u64 0] 38

set_option maxRecDepth 100000 in
set_option maxHeartbeats 4000000 in
theorem rtake_bad (base b : Nat) (v : Value) (l : List It) (room p : Int) (w : World) (h : IsR w base b v l room) (hp : pickE l p ≠ 0) :
    Calls Try.prog 11 #[.pointer (some ⟨b, 0, none⟩), .int .i64 p] w fun e w' => e = .returned (.tuple #[It.z.val, .int .i64 (pickE l p)]) ∧ Below w.heap.size w w' := by
  have H1 := hide (h.alloc ritB)
  have hz : (pickE l p == 0) = false := beq_false_of_ne hp
  have hlt := h.lt
  clear hp h
  go_enter Try.func11, Try.ntmps11
  go_wp2_with fail
  refine (rpick_any base b v l room p _ H1.out).mono ?_
  rintro e w' ⟨rfl, rfl⟩
  go_wp2_with fail
  have kz := Blk.new w 38 #[Value.int IntKind.i64 0, Value.int IntKind.i64 0, Value.string ⟨#[]⟩, Value.int IntKind.u64 0]
  have r0 := (kz.cell 0).trans rfl
  have r1 := (kz.cell 1).trans rfl
  have r2 := (kz.cell 2).trans rfl
  have r3 := (kz.cell 3).trans rfl
  refine bodyPost_ret (v := .tuple #[It.z.val, .int .i64 (pickE l p)]) (by simp [results, Try.results11, go_sem, r0, r1, r2, r3, It.z]) rfl ⟨rfl, ?_⟩
  exact (Below.refl w.heap.size w).alloc (Nat.le_refl _) _

set_option maxRecDepth 100000 in
set_option maxHeartbeats 4000000 in
theorem rtake_ok (base b : Nat) (v : Value) (l : List It) (room p : Int) (w : World) (h : IsR w base b v l room) (hp : pickE l p = 0) :
    Calls Try.prog 11 #[.pointer (some ⟨b, 0, none⟩), .int .i64 p] w fun e w' => e = .returned (.tuple #[(takeX l p).val, .int .i64 0]) ∧ ∃ v', IsR w' base b v' (takeL l p) room ∧ Ap w w' b v ∧ Nw w v v' := by
  have H1 := hide (h.alloc ritB)
  have hlt := h.lt
  have hk := pick_lt hp
  have hl := h.lr
  have h5 := h.r2
  obtain ⟨g, cap, hv, hg1, hg2, hc1, hc2⟩ := h.shape' (by omega)
  obtain ⟨x, hx⟩ : ∃ x, x = itAt l (pickN l p) := ⟨_, rfl⟩
  have hX : takeX l p = x := by rw [takeX, if_pos hp, hx]
  have hL : takeL l p = l.take (pickN l p) ++ l.drop (pickN l p + 1) := by rw [takeL, if_pos hp]
  have hlen := takeL_len hp
  have hne := h.ne (by decide)
  rw [hX]
  obtain ⟨k, hkk⟩ : ∃ k, k = pickN l p := ⟨_, rfl⟩
  rw [← hkk] at hx hL hk
  have F1 := hide (by have := rpick_any base b v l room p _ H1.out; rw [hp, ← hkk] at this; exact this)
  subst hv
  have hgb : g ≠ b := fun e => hne (by rw [e]; rfl)
  obtain ⟨e0, e1, e2, e3⟩ := H1.out.cells4 hk rfl
  rw [← hx] at e0 e1 e2 e3
  have c0 := (H1.out.blk.cell 0).trans rfl
  have j1 : (k : Int) < l.length := by omega
  have j2 : (k : Int) + 1 ≤ 9223372036854775807 := by omega
  have HL := hide hL
  have HN := hide hlen
  have HX := hide hx
  have HE := hide hp
  have HK := hide hkk
  have HH := hide h
  clear hL hlen hx hp hkk hX hne h
  obtain ⟨i0, hi0, hz0, hz1, hz2⟩ := info_parts ritem_info
  have IB := hide (H1.out.alloc (.cells #[Value.int IntKind.i64 x.fr, Value.int IntKind.i64 x.to, Value.string x.by_, Value.int IntKind.u64 x.at_] 38))
  have RT := hide (Reads.of_own (own_cut IB.out.own k (by omega) (by simp)))
  have RA := hide (Reads.of_own IB.out.own)
  have g1 : (k : Int) ≤ cap := by omega
  have g3 : (k : Int) + 1 ≤ l.length := by omega
  have g4 : (0 : Int) ≤ (k : Int) + 1 := by omega
  have g5 : ((k : Int) + 1).toNat = k + 1 := by omega
  have ht1 : cellsOf (l.take k ++ l.drop (k + 1)) = (cellsOf l).take (k * 4) ++ cellsOf (l.drop (k + 1)) := by rw [cellsOf_append, cellsOf_take l k (by omega)]
  have HT := hide ht1
  clear ht1
  rcases Nat.lt_or_ge (k + 1) cap with hcap | hcap
  · have hcap2 : ¬ cap = k + 1 := by omega
    go_enter Try.func11, Try.ntmps11
    go_wp2_with fail
    refine F1.out.mono ?_
    rintro e w' ⟨rfl, rfl⟩
    go_wp2_with (first | (at_builtin; refine wpList_append_any _ rfl (.tmp 27) (.tmp 33) 52 rfl base 38 i0 _ 4 40 Try.underlying52 hi0 hz0 hz1 hz2 rfl (by omega) (.slice none 0 0) 0 [] rfl (World.ownsRow_nil _ _ _ _) _ _ k cap ((cellsOf l).take (k * 4)) rfl RT.out (fun u hu => cellsOf_oneCell l u (List.mem_of_mem_take hu)) (by simp only [maxLen]; omega) (by omega) (by have := HH.out.gb; simp; omega) ?_; intro v1 w2 hown0 hgr1 hv1; have hown1 : w2.ownsRow base 38 4 v1 k ((cellsOf l).take (k * 4)) := (by simpa using hown0); obtain ⟨A1, c1, rfl⟩ := own_slice hown1; have O1 := hide hown1; have L1 := hide (grown_none_below hgr1); have V1 := hide hv1; have IB2 := hide (IB.out.below L1.out); clear hown0 hown1 hgr1 hv1 c0 e0 e1 e2 e3; have c0 := (IB2.out.blk.cell 0).trans rfl) | (at_builtin; refine wpList_append_any _ rfl (.tmp 36) (.tmp 43) 52 rfl base 38 i0 _ 4 40 Try.underlying52 hi0 hz0 hz1 hz2 rfl (by omega) (.slice A1 k c1) k ((cellsOf l).take (k * 4)) rfl O1.out _ _ (l.length - (k + 1)) (cap - (k + 1)) (cellsOf (l.drop (k + 1))) rfl (IB2.out.readsFrom rfl k hk hcap hc1) (cellsOf_oneCell _) (by simp only [maxLen]; omega) (by omega) (by have := HH.out.gb; have := L1.out.size; simp at this; omega) ?_; intro v2 w3 hown2 hgr2 hv2; obtain ⟨A2, c2, rfl⟩ := own_slice hown2; have O2 := hide hown2; have V2 := hide hv2; have L2 := hide (L1.out.grown hgr2 L1.out.size (fun q hq => by have := V1.out; rw [hq] at this; simp [Value.ownBlock] at this; simp; omega)); clear hown2 hgr2 hv2 c0; have ib3 := IB.out.below L2.out; have kx := (Blk.new (w.alloc ritB) 38 #[Value.int IntKind.i64 x.fr, Value.int IntKind.i64 x.to, Value.string x.by_, Value.int IntKind.u64 x.at_]).below L2.out (by simp); have kz := ((Blk.new w 38 #[Value.int IntKind.i64 0, Value.int IntKind.i64 0, Value.string ⟨#[]⟩, Value.int IntKind.u64 0]).alloc (.cells #[Value.int IntKind.i64 x.fr, Value.int IntKind.i64 x.to, Value.string x.by_, Value.int IntKind.u64 x.at_] 38)).below L2.out (by simp; omega); rw [World.size_alloc] at kx; have d0 := (ib3.blk.cell 0).trans rfl; have f0 := ib3.blk.frozen 0; have kx4 := kx.far (p := ⟨b, 0, none⟩) (by simp; omega) (.slice A2 (k + (l.length - (k + 1))) c2); have kz4 := kz.far (p := ⟨b, 0, none⟩) (by simp; omega) (.slice A2 (k + (l.length - (k + 1))) c2); have x0 := (kx4.cell 0).trans rfl; have x1 := (kx4.cell 1).trans rfl; have x2 := (kx4.cell 2).trans rfl; have x3 := (kx4.cell 3).trans rfl; have KZ := hide kz4; have z0 := (kz4.cell 0).trans rfl; have z1 := (kz4.cell 1).trans rfl; have z2 := (kz4.cell 2).trans rfl; have z3 := (kz4.cell 3).trans rfl; have y0 := kz4.frozen 0; have y1 := kz4.frozen 1; have y2 := kz4.frozen 2; have y3 := kz4.frozen 3; clear ib3 kx kz kx4 kz4))
    have hl1 : l.length - 1 = (l.take k ++ l.drop (k + 1)).length := by rw [List.length_append, List.length_take, List.length_drop]; omega
    have P1 := hide (IB.out.push (w1 := w3) (v' := Value.slice A2 (k + (l.length - (k + 1))) c2) (by decide) (l' := l.take k ++ l.drop (k + 1)) (by rw [← hl1]; omega) (by rw [← hl1]; rw [HT.out]; rw [show l.length - 1 = k + (l.length - (k + 1)) by omega]; exact O2.out) (only_of_below L2.out _) (.inr (by intro q hq; rcases V2.out with h | h <;> rcases V1.out with h' | h' <;> rw [hq] at h <;> first | (rw [h'] at h; simp [Value.ownBlock] at h; done) | (rw [h'] at h; injection h with h; omega) | (injection h with h; have := L1.out.size; omega))))
    have kf := (((KZ.out.set_ 0 (.int .i64 x.fr)).set_ 1 (.int .i64 x.to)).set_ 2 (.string x.by_)).set_ 3 (.int .u64 x.at_)
    have r0 := (kf.cell 0).trans rfl
    have r1 := (kf.cell 1).trans rfl
    have r2 := (kf.cell 2).trans rfl
    have r3 := (kf.cell 3).trans rfl
    refine bodyPost_ret (v := .tuple #[x.val, .int .i64 0]) (by simp [results, Try.results11, go_sem, r0, r1, r2, r3]) rfl ⟨rfl, Value.slice A2 (k + (l.length - (k + 1))) c2, ?_⟩
    obtain ⟨o1, o2⟩ := HH.out.old (Nat.le_refl w.heap.size)
    have o3 : (Value.slice A2 (k + (l.length - (k + 1))) c2).ownBlock ≠ some w.heap.size := by
      intro e
      rcases P1.out.2.2 _ e with h | h
      · exact o2 h
      · simp at h; omega
    rw [HL.out]
    refine ⟨?_, ?_, P1.out.2.2.mono (by simp; omega)⟩
    · exact (((P1.out.1.setFar (p := ⟨w.heap.size, 0, none⟩) o1 o3 _).setFar (p := ⟨w.heap.size, 1, none⟩) o1 o3 _).setFar (p := ⟨w.heap.size, 2, none⟩) o1 o3 _).setFar (p := ⟨w.heap.size, 3, none⟩) o1 o3 _
    · have a0 := (((Ap.refl w b (.slice (some ⟨g, 0, none⟩) l.length cap)).alloc ritB).alloc (.cells #[Value.int IntKind.i64 x.fr, Value.int IntKind.i64 x.to, Value.string x.by_, Value.int IntKind.u64 x.at_] 38)).trans P1.out.2.1 (Nw.refl _ _)
      exact (((a0.setFar (p := ⟨w.heap.size, 0, none⟩) (Nat.le_refl _) _).setFar (p := ⟨w.heap.size, 1, none⟩) (Nat.le_refl _) _).setFar (p := ⟨w.heap.size, 2, none⟩) (Nat.le_refl _) _).setFar (p := ⟨w.heap.size, 3, none⟩) (Nat.le_refl _) _
  · obtain rfl : cap = k + 1 := by omega
    have hn1 : l.length - 1 = k := by omega
    have hn0 : l.length - (k + 1) = 0 := by omega
    go_enter Try.func11, Try.ntmps11
    go_wp2_with fail
    refine F1.out.mono ?_
    rintro e w' ⟨rfl, rfl⟩
    go_wp2_with (first | (at_builtin; refine wpList_append_any _ rfl (.tmp 27) (.tmp 33) 52 rfl base 38 i0 _ 4 40 Try.underlying52 hi0 hz0 hz1 hz2 rfl (by omega) (.slice none 0 0) 0 [] rfl (World.ownsRow_nil _ _ _ _) _ _ k (k + 1) ((cellsOf l).take (k * 4)) rfl RT.out (fun u hu => cellsOf_oneCell l u (List.mem_of_mem_take hu)) (by simp only [maxLen]; omega) (by omega) (by have := HH.out.gb; simp; omega) ?_; intro v1 w2 hown0 hgr1 hv1; have hown1 : w2.ownsRow base 38 4 v1 k ((cellsOf l).take (k * 4)) := (by simpa using hown0); obtain ⟨A1, c1, rfl⟩ := own_slice hown1; have O1 := hide hown1; have L1 := hide (grown_none_below hgr1); have V1 := hide hv1; have IB2 := hide (IB.out.below L1.out); clear hown0 hown1 hgr1 hv1 c0 e0 e1 e2 e3; have c0 := (IB2.out.blk.cell 0).trans rfl) | (at_builtin; refine wpList_append_any _ rfl (.tmp 36) (.tmp 43) 52 rfl base 38 i0 _ 4 40 Try.underlying52 hi0 hz0 hz1 hz2 rfl (by omega) (.slice A1 k c1) k ((cellsOf l).take (k * 4)) rfl O1.out w2.heap.size _ 0 _ [] rfl ⟨by simp, fun h => absurd h (by omega)⟩ (by simp) (by simp only [maxLen]; omega) (by omega) (by have := HH.out.gb; have := L1.out.size; simp at this; omega) ?_; intro v2 w3 hown3 hgr2 hv2; have hown2 : w3.ownsRow base 38 4 v2 k ((cellsOf l).take (k * 4)) := (by simpa using hown3); obtain ⟨A2, c2, rfl⟩ := own_slice hown2; have O2 := hide hown2; have V2 := hide hv2; have L2 := hide (L1.out.grown hgr2 L1.out.size (fun q hq => by have := V1.out; rw [hq] at this; simp [Value.ownBlock] at this; simp; omega)); clear hown2 hown3 hgr2 hv2 c0; have ib3 := IB.out.below L2.out; have kx := (Blk.new (w.alloc ritB) 38 #[Value.int IntKind.i64 x.fr, Value.int IntKind.i64 x.to, Value.string x.by_, Value.int IntKind.u64 x.at_]).below L2.out (by simp); have kz := ((Blk.new w 38 #[Value.int IntKind.i64 0, Value.int IntKind.i64 0, Value.string ⟨#[]⟩, Value.int IntKind.u64 0]).alloc (.cells #[Value.int IntKind.i64 x.fr, Value.int IntKind.i64 x.to, Value.string x.by_, Value.int IntKind.u64 x.at_] 38)).below L2.out (by simp; omega); rw [World.size_alloc] at kx; have d0 := (ib3.blk.cell 0).trans rfl; have f0 := ib3.blk.frozen 0; have kx4 := kx.far (p := ⟨b, 0, none⟩) (by simp; omega) (.slice A2 (k) c2); have kz4 := kz.far (p := ⟨b, 0, none⟩) (by simp; omega) (.slice A2 (k) c2); have x0 := (kx4.cell 0).trans rfl; have x1 := (kx4.cell 1).trans rfl; have x2 := (kx4.cell 2).trans rfl; have x3 := (kx4.cell 3).trans rfl; have KZ := hide kz4; have z0 := (kz4.cell 0).trans rfl; have z1 := (kz4.cell 1).trans rfl; have z2 := (kz4.cell 2).trans rfl; have z3 := (kz4.cell 3).trans rfl; have y0 := kz4.frozen 0; have y1 := kz4.frozen 1; have y2 := kz4.frozen 2; have y3 := kz4.frozen 3; clear ib3 kx kz kx4 kz4))
    have hl1 : l.length - 1 = (l.take k ++ l.drop (k + 1)).length := by rw [List.length_append, List.length_take, List.length_drop]; omega
    have P1 := hide (IB.out.push (w1 := w3) (v' := Value.slice A2 k c2) (by decide) (l' := l.take k ++ l.drop (k + 1)) (by rw [← hl1]; omega) (by rw [← hl1]; rw [HT.out, hn1, List.drop_of_length_le (by omega)]; have := O2.out; simpa [cellsOf] using this) (only_of_below L2.out _) (.inr (by intro q hq; rcases V2.out with h | h <;> rcases V1.out with h' | h' <;> rw [hq] at h <;> first | (rw [h'] at h; simp [Value.ownBlock] at h; done) | (rw [h'] at h; injection h with h; omega) | (injection h with h; have := L1.out.size; omega))))
    have kf := (((KZ.out.set_ 0 (.int .i64 x.fr)).set_ 1 (.int .i64 x.to)).set_ 2 (.string x.by_)).set_ 3 (.int .u64 x.at_)
    have r0 := (kf.cell 0).trans rfl
    have r1 := (kf.cell 1).trans rfl
    have r2 := (kf.cell 2).trans rfl
    have r3 := (kf.cell 3).trans rfl
    refine bodyPost_ret (v := .tuple #[x.val, .int .i64 0]) (by simp [results, Try.results11, go_sem, r0, r1, r2, r3]) rfl ⟨rfl, Value.slice A2 k c2, ?_⟩
    obtain ⟨o1, o2⟩ := HH.out.old (Nat.le_refl w.heap.size)
    have o3 : (Value.slice A2 k c2).ownBlock ≠ some w.heap.size := by
      intro e
      rcases P1.out.2.2 _ e with h | h
      · exact o2 h
      · simp at h; omega
    rw [HL.out]
    refine ⟨?_, ?_, P1.out.2.2.mono (by simp; omega)⟩
    · exact (((P1.out.1.setFar (p := ⟨w.heap.size, 0, none⟩) o1 o3 _).setFar (p := ⟨w.heap.size, 1, none⟩) o1 o3 _).setFar (p := ⟨w.heap.size, 2, none⟩) o1 o3 _).setFar (p := ⟨w.heap.size, 3, none⟩) o1 o3 _
    · have a0 := (((Ap.refl w b (.slice (some ⟨g, 0, none⟩) l.length (k + 1))).alloc ritB).alloc (.cells #[Value.int IntKind.i64 x.fr, Value.int IntKind.i64 x.to, Value.string x.by_, Value.int IntKind.u64 x.at_] 38)).trans P1.out.2.1 (Nw.refl _ _)
      exact (((a0.setFar (p := ⟨w.heap.size, 0, none⟩) (Nat.le_refl _) _).setFar (p := ⟨w.heap.size, 1, none⟩) (Nat.le_refl _) _).setFar (p := ⟨w.heap.size, 2, none⟩) (Nat.le_refl _) _).setFar (p := ⟨w.heap.size, 3, none⟩) (Nat.le_refl _) _

theorem rtake_any (base b : Nat) (v : Value) (l : List It) (room p : Int) (w : World) (h : IsR w base b v l room) :
    Calls Try.prog 11 #[.pointer (some ⟨b, 0, none⟩), .int .i64 p] w fun e w' => e = .returned (.tuple #[(takeX l p).val, .int .i64 (pickE l p)]) ∧ ∃ v', IsR w' base b v' (takeL l p) room ∧ Ap w w' b v ∧ Nw w v v' := by
  by_cases hp : pickE l p = 0
  · rw [hp]
    exact rtake_ok base b v l room p w h hp
  · have hX : takeX l p = It.z := by rw [takeX, if_neg hp]
    have hL : takeL l p = l := by rw [takeL, if_neg hp]
    rw [hX, hL]
    refine (rtake_bad base b v l room p w h hp).mono ?_
    rintro e w' ⟨rfl, hb⟩
    exact ⟨rfl, v, h.below hb, Ap.of_below hb _ _, Nw.refl _ _⟩

end Go.Proofs.Ytioehmlaaimeaaa
