/-
  Chapter 21: Items, Take, in the program's text.
-/
import Derived.Test.YtioehmlaaimeaaaW3
import Derived.Test.YtioehmlaaimeaaaW4
namespace Go.Proofs.Ytioehmlaaimeaaa
open Go.RowKit

set_option maxHeartbeats 1000000 in
theorem items_any (base b : Nat) (v : Value) (l : List It) (room : Int) (w : World) (h : IsB w base b v l room) :
    Calls Try.prog 23 #[.pointer (some ⟨b, 0, none⟩)] w fun e w' => ∃ v', e = .returned v' ∧ w'.ownsRow w.heap.size 33 4 v' l.length (cellsOf l) ∧ Below w.heap.size w w' := by
  obtain ⟨A, cap, rfl⟩ := h.slice
  have c0 := (h.blk.cell 0).trans rfl
  have hl := h.lr
  have h5 := h.r2
  have H := hide h
  clear h
  go_enter Try.func23, Try.ntmps23
  go_wp2_with fail
  refine (clone_any base _ l w H.out.own (by omega)).mono ?_
  rintro e w' ⟨v', rfl, ho, hb⟩
  obtain ⟨A2, cap2, rfl⟩ := own_slice ho
  have O1 := hide ho
  have B1 := hide hb
  clear ho hb
  go_wp2_with fail
  go_ret
  exact ⟨_, rfl, O1.out, B1.out⟩

abbrev itB : Obj := .cells #[Value.int IntKind.i64 0, Value.int IntKind.i64 0, Value.string ⟨#[]⟩, Value.int IntKind.u64 0] 33

set_option maxHeartbeats 2000000 in
theorem take_bad (base b : Nat) (v : Value) (l : List It) (room p : Int) (w : World) (h : IsB w base b v l room) (hp : pickE l p ≠ 0) :
    Calls Try.prog 10 #[.pointer (some ⟨b, 0, none⟩), .int .i64 p] w fun e w' => e = .returned (.tuple #[It.z.val, .int .i64 (pickE l p)]) ∧ Below w.heap.size w w' := by
  have H1 := hide (h.alloc itB)
  have hz : (pickE l p == 0) = false := beq_false_of_ne hp
  have hlt := h.lt
  clear hp h
  go_enter Try.func10, Try.ntmps10
  go_wp2_with fail
  refine (find_any base b v l room p _ H1.out).mono ?_
  rintro e w' ⟨rfl, rfl⟩
  go_wp2_with fail
  have kz := Blk.new w 33 #[Value.int IntKind.i64 0, Value.int IntKind.i64 0, Value.string ⟨#[]⟩, Value.int IntKind.u64 0]
  have r0 := (kz.cell 0).trans rfl
  have r1 := (kz.cell 1).trans rfl
  have r2 := (kz.cell 2).trans rfl
  have r3 := (kz.cell 3).trans rfl
  refine bodyPost_ret (v := .tuple #[It.z.val, .int .i64 (pickE l p)]) (by simp [results, Try.results10, go_sem, r0, r1, r2, r3, It.z]) rfl ⟨rfl, ?_⟩
  exact (Below.refl w.heap.size w).alloc (Nat.le_refl _) _

set_option maxHeartbeats 2000000 in
theorem take_ok (base b : Nat) (v : Value) (l : List It) (room p : Int) (w : World) (h : IsB w base b v l room) (hp : pickE l p = 0) :
    Calls Try.prog 10 #[.pointer (some ⟨b, 0, none⟩), .int .i64 p] w fun e w' => e = .returned (.tuple #[(takeX l p).val, .int .i64 0]) ∧ ∃ v', IsB w' base b v' (takeL l p) room ∧ Ap w w' b v ∧ Nw w v v' := by
  have H1 := hide (h.alloc itB)
  have hlt := h.lt
  have hk := pick_lt hp
  have hl := h.lr
  have h5 := h.r2
  obtain ⟨g, cap, hv, hg1, hg2, hc1, hc2⟩ := h.shape' (by omega)
  obtain ⟨x, hx⟩ : ∃ x, x = itAt l (pickN l p) := ⟨_, rfl⟩
  have hX : takeX l p = x := by rw [takeX, if_pos hp, hx]
  have hL : takeL l p = l.take (pickN l p) ++ l.drop (pickN l p + 1) := by rw [takeL, if_pos hp]
  have hlen := takeL_len hp
  have hne := h.ne (by decide)
  rw [hX]
  obtain ⟨k, hkk⟩ : ∃ k, k = pickN l p := ⟨_, rfl⟩
  rw [← hkk] at hx hL hk
  have F1 := hide (by have := find_any base b v l room p _ H1.out; rw [hp, ← hkk] at this; exact this)
  subst hv
  have hgb : g ≠ b := fun e => hne (by rw [e]; rfl)
  obtain ⟨e0, e1, e2, e3⟩ := H1.out.cells4 hk rfl
  rw [← hx] at e0 e1 e2 e3
  have c0 := (H1.out.blk.cell 0).trans rfl
  have j1 : (k : Int) < l.length := by omega
  have j2 : (k : Int) + 1 ≤ 9223372036854775807 := by omega
  have HL := hide hL
  have HN := hide hlen
  have HX := hide hx
  have HE := hide hp
  have HK := hide hkk
  have HH := hide h
  clear hL hlen hx hp hkk hX hne h
  go_enter Try.func10, Try.ntmps10
  go_wp2_with fail
  refine F1.out.mono ?_
  rintro e w' ⟨rfl, rfl⟩
  go_wp2_with fail
  have IB := H1.out.alloc (.cells #[Value.int IntKind.i64 x.fr, Value.int IntKind.i64 x.to, Value.string x.by_, Value.int IntKind.u64 x.at_] 33)
  refine (delete_any base g cap k l _ IB.own hk hc1 (by omega)).mono ?_
  rintro e w3 ⟨rfl, ho3, hg3⟩
  have hb3 := IB.blk.grown hg3 (by intro e; injection e with e; exact hgb e.symm)
  have kx := (Blk.new (w.alloc itB) 33 #[Value.int IntKind.i64 x.fr, Value.int IntKind.i64 x.to, Value.string x.by_, Value.int IntKind.u64 x.at_]).grown hg3 (by simp; omega)
  have kz := ((Blk.new w 33 #[Value.int IntKind.i64 0, Value.int IntKind.i64 0, Value.string ⟨#[]⟩, Value.int IntKind.u64 0]).alloc (.cells #[Value.int IntKind.i64 x.fr, Value.int IntKind.i64 x.to, Value.string x.by_, Value.int IntKind.u64 x.at_] 33)).grown hg3 (by simp; omega)
  rw [World.size_alloc] at kx
  have d0 := (hb3.cell 0).trans rfl
  have f0 := hb3.frozen 0
  have kx4 := kx.far (p := ⟨b, 0, none⟩) (by simp; omega) (.slice (some ⟨g, 0, none⟩) (l.length - 1) cap)
  have kz4 := kz.far (p := ⟨b, 0, none⟩) (by simp; omega) (.slice (some ⟨g, 0, none⟩) (l.length - 1) cap)
  have x0 := (kx4.cell 0).trans rfl
  have x1 := (kx4.cell 1).trans rfl
  have x2 := (kx4.cell 2).trans rfl
  have x3 := (kx4.cell 3).trans rfl
  have z0 := (kz4.cell 0).trans rfl
  have z1 := (kz4.cell 1).trans rfl
  have z2 := (kz4.cell 2).trans rfl
  have z3 := (kz4.cell 3).trans rfl
  have KZ := hide kz4
  have y0 := kz4.frozen 0
  have y1 := kz4.frozen 1
  have y2 := kz4.frozen 2
  have y3 := kz4.frozen 3
  have hl1 : l.length - 1 = (l.take k ++ l.drop (k + 1)).length := by rw [List.length_append, List.length_take, List.length_drop]; omega
  have P1 := hide (IB.push (w1 := w3) (v' := .slice (some ⟨g, 0, none⟩) (l.length - 1) cap) (by decide) (l' := l.take k ++ l.drop (k + 1)) (by rw [← hl1]; omega) (by rw [← hl1]; exact ho3) hg3 (.inl rfl))
  clear c0 e0 e1 e2 e3 ho3 hg3 hb3 kx kz kx4 kz4 hl1 IB
  go_wp2_with fail
  have kf := (((KZ.out.set_ 0 (.int .i64 x.fr)).set_ 1 (.int .i64 x.to)).set_ 2 (.string x.by_)).set_ 3 (.int .u64 x.at_)
  have r0 := (kf.cell 0).trans rfl
  have r1 := (kf.cell 1).trans rfl
  have r2 := (kf.cell 2).trans rfl
  have r3 := (kf.cell 3).trans rfl
  refine bodyPost_ret (v := .tuple #[x.val, .int .i64 0]) (by simp [results, Try.results10, go_sem, r0, r1, r2, r3]) rfl ⟨rfl, .slice (some ⟨g, 0, none⟩) (l.length - 1) cap, ?_⟩
  obtain ⟨o1, o2⟩ := HH.out.old (Nat.le_refl w.heap.size)
  have o3 : (Value.slice (some ⟨g, 0, none⟩) (l.length - 1) cap).ownBlock ≠ some w.heap.size := o2
  rw [HL.out]
  refine ⟨?_, ?_, P1.out.2.2.mono (by simp; omega)⟩
  · exact (((P1.out.1.setFar (p := ⟨w.heap.size, 0, none⟩) o1 o3 _).setFar (p := ⟨w.heap.size, 1, none⟩) o1 o3 _).setFar (p := ⟨w.heap.size, 2, none⟩) o1 o3 _).setFar (p := ⟨w.heap.size, 3, none⟩) o1 o3 _
  · have a0 := (((Ap.refl w b (.slice (some ⟨g, 0, none⟩) l.length cap)).alloc itB).alloc (.cells #[Value.int IntKind.i64 x.fr, Value.int IntKind.i64 x.to, Value.string x.by_, Value.int IntKind.u64 x.at_] 33)).trans P1.out.2.1 (Nw.refl _ _)
    exact (((a0.setFar (p := ⟨w.heap.size, 0, none⟩) (Nat.le_refl _) _).setFar (p := ⟨w.heap.size, 1, none⟩) (Nat.le_refl _) _).setFar (p := ⟨w.heap.size, 2, none⟩) (Nat.le_refl _) _).setFar (p := ⟨w.heap.size, 3, none⟩) (Nat.le_refl _) _

theorem take_any (base b : Nat) (v : Value) (l : List It) (room p : Int) (w : World) (h : IsB w base b v l room) :
    Calls Try.prog 10 #[.pointer (some ⟨b, 0, none⟩), .int .i64 p] w fun e w' => e = .returned (.tuple #[(takeX l p).val, .int .i64 (pickE l p)]) ∧ ∃ v', IsB w' base b v' (takeL l p) room ∧ Ap w w' b v ∧ Nw w v v' := by
  by_cases hp : pickE l p = 0
  · rw [hp]
    exact take_ok base b v l room p w h hp
  · have hX : takeX l p = It.z := by rw [takeX, if_neg hp]
    have hL : takeL l p = l := by rw [takeL, if_neg hp]
    rw [hX, hL]
    refine (take_bad base b v l room p w h hp).mono ?_
    rintro e w' ⟨rfl, hb⟩
    exact ⟨rfl, v, h.below hb, Ap.of_below hb _ _, Nw.refl _ _⟩

end Go.Proofs.Ytioehmlaaimeaaa
