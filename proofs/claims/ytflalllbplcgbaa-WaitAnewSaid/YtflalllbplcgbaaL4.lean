/-
  Chapter 18: WaitAnew, walked: its six ways.
-/
import Derived.Test.YtflalllbplcgbaaL3
namespace Go.Proofs.Ytflalllbplcgbaa
open Go.RowKit Go.Sort Go.Maps Go.Shelf

set_option maxRecDepth 100000 in
set_option maxHeartbeats 4000000 in
theorem anew_neg_eq (a c t : Int) (w : World) (ha : 0 ≤ a ∧ a ≤ 65535) (hc : 0 ≤ c ∧ c ≤ 65535) (ht : Fits t) (h0 : t < 0) :
    Calls Try.prog 6 #[.int .u16 a, .int .u16 c, .int .i64 t, .agg #[.int .i64 2, .int .i64 3]] w fun e w' => e = .returned (.bool true) ∧ Below w.heap.size w w' := by
  have t1 : ¬ 0 ≤ t := by omega
  have t2 : decide (0 ≤ t) = false := by simp; omega
  have HA := hide ha
  have HC := hide hc
  have HT := hide ht
  have q1 := fun (W : World) => eq_id 2 3 2 3 W
  have q2 := fun (W : World) => neq_id 2 3 2 3 W
  rw [show eqId 2 3 2 3 = true from rfl] at q1 q2
  simp only [Bool.not_true] at q2
  have rr := fun (W : World) => right_any 2 3 W
  rw [show rightB 2 3 = true from rfl] at rr
  unfold keyV at rr
  have RR := hide rr
  have hge := fun (op : BinOp) (o1 o2 : Operand) (W : World) => guard_id op o1 o2 #[.int .i64 2, .int .i64 3] #[.int .i64 2, .int .i64 3] W
  have wc : IntKind.u64.wrap c = c := IntWalk.u64_in _ (by have := HC.out; omega)
  have wa : IntKind.u64.wrap a = a := IntWalk.u64_in _ (by have := HA.out; omega)
  obtain ⟨a0, a1⟩ := ha
  obtain ⟨c0, c1⟩ := hc
  clear ht rr
  go_enter Try.func6, Try.ntmps6
  go_wp2_with fail
  have hbx : Blk (w.alloc (.cells #[.int .i64 2, .int .i64 3] 36)) w.heap.size 36 #[.int .i64 2, .int .i64 3] := Blk.new _ _ _
  have hb0 : Below w.heap.size w (w.alloc (.cells #[.int .i64 2, .int .i64 3] 36)) := (Below.refl _ _).alloc (Nat.le_refl _) _
  refine (examples_any _).mono ?_
  rintro e w1 ⟨rfl, hb1⟩
  obtain ⟨gi, hgi⟩ : ∃ g, g = w.heap.size := ⟨_, rfl⟩
  have K1 := hide (hbx.below hb1 hbx.lt)
  have B1 := hide (hb0.trans (hb1.mono hb0.size))
  rw [← hgi] at K1 ⊢
  have GI := hide (Nat.le_of_eq hgi.symm)
  clear hb1 hbx hb0 hgi
  go_wp2_with fail
  refine (new_grown w w1 B1.out).mono ?_
  rintro e w2 ⟨B, b, rfl, hw2, hk2⟩
  have K2 := hide (K1.out.below hk2 K1.out.lt)
  have hx : Blk (w2.alloc (.cells #[.int .i64 2, .int .i64 3] 36)) w2.heap.size 36 #[.int .i64 2, .int .i64 3] := Blk.new _ _ _
  have WX := hide (hw2.alloc (.cells #[.int .i64 2, .int .i64 3] 36))
  have KX := hide (K2.out.alloc (.cells #[.int .i64 2, .int .i64 3] 36))
  clear hw2 hk2 K1 K2
  go_wp2_with fail
  obtain ⟨gx, hgx⟩ : ∃ g, g = w2.heap.size := ⟨_, rfl⟩
  rw [← hgx] at hx ⊢
  have X0 := hide hx
  clear hx hgx
  refine (anew1 w _ B b a HA.out WX.out).mono ?_
  rintro e w3 ⟨rfl, h3, k3⟩
  have W1 := hide h3
  have X1 := hide (X0.out.grown k3 (fun e => WX.out.map.ne_blk X0.out (by injection e with e; exact e.symm)))
  have KI1 := hide (KX.out.grown k3 (fun e => WX.out.map.ne_blk KX.out (by injection e with e; exact e.symm)))
  have x0 := (X1.out.cell 0).trans rfl
  have x1 := (X1.out.cell 1).trans rfl
  clear h3 k3 X0 KX WX
  go_wp2_with fail
  refine (anew2_neg w _ B b a c t HC.out HT.out h0 W1.out).mono ?_
  rintro e w4 ⟨rfl, h4, k4⟩
  have W2 := hide h4
  have X2 := hide (X1.out.grown k4 (fun e => W1.out.map.ne_blk X1.out (by injection e with e; exact e.symm)))
  have KI2 := hide (KI1.out.grown k4 (fun e => W1.out.map.ne_blk KI1.out (by injection e with e; exact e.symm)))
  clear x0 x1 h4 k4 X1 KI1 W1
  have i0 := (KI2.out.cell 0).trans rfl
  have i1 := (KI2.out.cell 1).trans rfl
  go_wp2_with fail
  refine (anew3_eq w _ B b a 1 W2.out).mono ?_
  rintro e w5 ⟨rfl, h5, k5⟩
  have W3 := hide h5
  have X3 := hide (X2.out.grown k5 (fun e => W2.out.map.ne_blk X2.out (by injection e with e; exact e.symm)))
  have KI3 := hide (KI2.out.grown k5 (fun e => W2.out.map.ne_blk KI2.out (by injection e with e; exact e.symm)))
  clear h5 k5 X2 KI2 W2 i0 i1
  have x0 := (X3.out.cell 0).trans rfl
  have x1 := (X3.out.cell 1).trans rfl
  go_wp2_with fail
  refine (anew_of w _ B b 5 0 [] W3.out).mono ?_
  rintro e w6 ⟨rfl, h6⟩
  have hb6 : Below w5.heap.size w5 (w6.alloc (.cells #[.int .i64 2, .int .i64 3, .int .u64 5, .int .i64 0] 47)) := h6.alloc h6.size _
  have Y4 : Hid (Blk (w6.alloc (.cells #[.int .i64 2, .int .i64 3, .int .u64 5, .int .i64 0] 47)) w6.heap.size 47 #[.int .i64 2, .int .i64 3, .int .u64 5, .int .i64 0]) := Blk.new _ _ _
  have W4 := hide (W3.out.below hb6)
  have X4 := hide (X3.out.below hb6 X3.out.lt)
  have KI4 := hide (KI3.out.below hb6 KI3.out.lt)
  clear h6 x0 x1 W3 X3 KI3 hb6
  have x0 := (X4.out.cell 0).trans rfl
  have x1 := (X4.out.cell 1).trans rfl
  have i0 := (KI4.out.cell 0).trans rfl
  have i1 := (KI4.out.cell 1).trans rfl
  go_wp2_with fail
  refine (RR.out _).mono ?_
  rintro e w7 ⟨rfl, g7⟩
  have W5 := hide (W4.out.gr g7)
  have X5 := hide (X4.out.below g7.below X4.out.lt)
  have KI5 := hide (KI4.out.below g7.below KI4.out.lt)
  have Y5 := hide (Y4.out.below g7.below Y4.out.lt)
  clear x0 x1 i0 i1 g7 W4 X4 KI4 Y4
  have x0 := (X5.out.cell 0).trans rfl
  have x1 := (X5.out.cell 1).trans rfl
  have i0 := (KI5.out.cell 0).trans rfl
  have i1 := (KI5.out.cell 1).trans rfl
  have y2 := (Y5.out.cell 2).trans rfl
  have y3 := (Y5.out.cell 3).trans rfl
  go_wp2_with fail
  refine (RR.out _).mono ?_
  rintro e w8 ⟨rfl, g8⟩
  have W6 := hide (W5.out.gr g8)
  have X6 := hide (X5.out.below g8.below X5.out.lt)
  have Y6 := hide (Y5.out.below g8.below Y5.out.lt)
  clear x0 x1 i0 i1 y2 y3 g8 W5 X5 KI5 Y5
  have y2 := (Y6.out.cell 2).trans rfl
  have y3 := (Y6.out.cell 3).trans rfl
  go_wp2_with fail
  refine (anew_all w _ B b [⟨2, 3, 5, 0⟩] 1 rfl (by omega) W6.out).mono ?_
  rintro e w9 ⟨A9, c9, rfl, h9, hb9⟩
  have W7 := hide h9
  have X7 := hide (X6.out.below hb9 X6.out.lt)
  clear y2 y3 h9 hb9 W6 X6 Y6
  have x0 := (X7.out.cell 0).trans rfl
  have x1 := (X7.out.cell 1).trans rfl
  go_wp2_with fail
  refine (anew_stop1 w _ B b 5 0 [] W7.out).mono ?_
  rintro e w10 ⟨rfl, h10, k10⟩
  have W8 := hide h10
  have X8 := hide (X7.out.grown k10 (fun e => W7.out.map.ne_blk X7.out (by injection e with e; exact e.symm)))
  clear x0 x1 h10 k10 W7 X7
  have x0 := (X8.out.cell 0).trans rfl
  have x1 := (X8.out.cell 1).trans rfl
  go_wp2_with fail
  refine (anew_stop2 w _ B b _ W8.out).mono ?_
  rintro e w11 ⟨rfl, h11, k11⟩
  have BF := hide h11.bel
  clear x0 x1 h11 k11 W8 X8
  go_wp2_with fail
  go_ret
  exact ⟨rfl, BF.out⟩

set_option maxRecDepth 100000 in
set_option maxHeartbeats 4000000 in
theorem anew_neg_new (a c t : Int) (io inn : Int) (w : World) (ha : 0 ≤ a ∧ a ≤ 65535) (hc : 0 ≤ c ∧ c ≤ 65535) (ht : Fits t) (h0 : t < 0) (hio : Fits io) (hin : Fits inn) (hr : rightB io inn = true) (he : eqId io inn 2 3 = false) :
    Calls Try.prog 6 #[.int .u16 a, .int .u16 c, .int .i64 t, .agg #[.int .i64 io, .int .i64 inn]] w fun e w' => e = .returned (.bool true) ∧ Below w.heap.size w w' := by
  have t1 : ¬ 0 ≤ t := by omega
  have t2 : decide (0 ≤ t) = false := by simp; omega
  have HA := hide ha
  have HC := hide hc
  have HT := hide ht
  have q1 := fun (W : World) => eq_id io inn 2 3 W
  have q2 := fun (W : World) => neq_id io inn 2 3 W
  rw [he] at q1 q2
  simp only [Bool.not_false] at q2
  have rr := fun (W : World) => right_any io inn W
  rw [hr] at rr
  have HE := hide he
  have HR := hide hr
  have HIO := hide hio
  have HIN := hide hin
  clear he hr hio hin
  unfold keyV at rr
  have RR := hide rr
  have hge := fun (op : BinOp) (o1 o2 : Operand) (W : World) => guard_id op o1 o2 #[.int .i64 io, .int .i64 inn] #[.int .i64 2, .int .i64 3] W
  have wc : IntKind.u64.wrap c = c := IntWalk.u64_in _ (by have := HC.out; omega)
  have wa : IntKind.u64.wrap a = a := IntWalk.u64_in _ (by have := HA.out; omega)
  obtain ⟨a0, a1⟩ := ha
  obtain ⟨c0, c1⟩ := hc
  clear ht rr
  go_enter Try.func6, Try.ntmps6
  go_wp2_with fail
  have hbx : Blk (w.alloc (.cells #[.int .i64 io, .int .i64 inn] 36)) w.heap.size 36 #[.int .i64 io, .int .i64 inn] := Blk.new _ _ _
  have hb0 : Below w.heap.size w (w.alloc (.cells #[.int .i64 io, .int .i64 inn] 36)) := (Below.refl _ _).alloc (Nat.le_refl _) _
  refine (examples_any _).mono ?_
  rintro e w1 ⟨rfl, hb1⟩
  obtain ⟨gi, hgi⟩ : ∃ g, g = w.heap.size := ⟨_, rfl⟩
  have K1 := hide (hbx.below hb1 hbx.lt)
  have B1 := hide (hb0.trans (hb1.mono hb0.size))
  rw [← hgi] at K1 ⊢
  have GI := hide (Nat.le_of_eq hgi.symm)
  clear hb1 hbx hb0 hgi
  go_wp2_with fail
  refine (new_grown w w1 B1.out).mono ?_
  rintro e w2 ⟨B, b, rfl, hw2, hk2⟩
  have K2 := hide (K1.out.below hk2 K1.out.lt)
  have hx : Blk (w2.alloc (.cells #[.int .i64 2, .int .i64 3] 36)) w2.heap.size 36 #[.int .i64 2, .int .i64 3] := Blk.new _ _ _
  have WX := hide (hw2.alloc (.cells #[.int .i64 2, .int .i64 3] 36))
  have KX := hide (K2.out.alloc (.cells #[.int .i64 2, .int .i64 3] 36))
  clear hw2 hk2 K1 K2
  go_wp2_with fail
  obtain ⟨gx, hgx⟩ : ∃ g, g = w2.heap.size := ⟨_, rfl⟩
  rw [← hgx] at hx ⊢
  have X0 := hide hx
  clear hx hgx
  refine (anew1 w _ B b a HA.out WX.out).mono ?_
  rintro e w3 ⟨rfl, h3, k3⟩
  have W1 := hide h3
  have X1 := hide (X0.out.grown k3 (fun e => WX.out.map.ne_blk X0.out (by injection e with e; exact e.symm)))
  have KI1 := hide (KX.out.grown k3 (fun e => WX.out.map.ne_blk KX.out (by injection e with e; exact e.symm)))
  have x0 := (X1.out.cell 0).trans rfl
  have x1 := (X1.out.cell 1).trans rfl
  clear h3 k3 X0 KX WX
  go_wp2_with fail
  refine (anew2_neg w _ B b a c t HC.out HT.out h0 W1.out).mono ?_
  rintro e w4 ⟨rfl, h4, k4⟩
  have W2 := hide h4
  have X2 := hide (X1.out.grown k4 (fun e => W1.out.map.ne_blk X1.out (by injection e with e; exact e.symm)))
  have KI2 := hide (KI1.out.grown k4 (fun e => W1.out.map.ne_blk KI1.out (by injection e with e; exact e.symm)))
  clear x0 x1 h4 k4 X1 KI1 W1
  have i0 := (KI2.out.cell 0).trans rfl
  have i1 := (KI2.out.cell 1).trans rfl
  go_wp2_with fail
  refine (anew3_new w _ B b a 1 io inn HIO.out HIN.out HR.out HE.out W2.out).mono ?_
  rintro e w5 ⟨rfl, h5, k5⟩
  have W3 := hide h5
  have X3 := hide (X2.out.grown k5 (fun e => W2.out.map.ne_blk X2.out (by injection e with e; exact e.symm)))
  have KI3 := hide (KI2.out.grown k5 (fun e => W2.out.map.ne_blk KI2.out (by injection e with e; exact e.symm)))
  clear h5 k5 X2 KI2 W2 i0 i1
  have x0 := (X3.out.cell 0).trans rfl
  have x1 := (X3.out.cell 1).trans rfl
  go_wp2_with fail
  refine (anew_of w _ B b a 1 [⟨io, inn, 5, 0⟩] W3.out).mono ?_
  rintro e w6 ⟨rfl, h6⟩
  have hb6 : Below w5.heap.size w5 (w6.alloc (.cells #[.int .i64 2, .int .i64 3, .int .u64 a, .int .i64 1] 47)) := h6.alloc h6.size _
  have Y4 : Hid (Blk (w6.alloc (.cells #[.int .i64 2, .int .i64 3, .int .u64 a, .int .i64 1] 47)) w6.heap.size 47 #[.int .i64 2, .int .i64 3, .int .u64 a, .int .i64 1]) := Blk.new _ _ _
  have W4 := hide (W3.out.below hb6)
  have X4 := hide (X3.out.below hb6 X3.out.lt)
  have KI4 := hide (KI3.out.below hb6 KI3.out.lt)
  clear h6 x0 x1 W3 X3 KI3 hb6
  have x0 := (X4.out.cell 0).trans rfl
  have x1 := (X4.out.cell 1).trans rfl
  have i0 := (KI4.out.cell 0).trans rfl
  have i1 := (KI4.out.cell 1).trans rfl
  go_wp2_with fail
  refine (RR.out _).mono ?_
  rintro e w7 ⟨rfl, g7⟩
  have W5 := hide (W4.out.gr g7)
  have X5 := hide (X4.out.below g7.below X4.out.lt)
  have KI5 := hide (KI4.out.below g7.below KI4.out.lt)
  have Y5 := hide (Y4.out.below g7.below Y4.out.lt)
  clear x0 x1 i0 i1 g7 W4 X4 KI4 Y4
  have x0 := (X5.out.cell 0).trans rfl
  have x1 := (X5.out.cell 1).trans rfl
  have i0 := (KI5.out.cell 0).trans rfl
  have i1 := (KI5.out.cell 1).trans rfl
  have y2 := (Y5.out.cell 2).trans rfl
  have y3 := (Y5.out.cell 3).trans rfl
  go_wp2_with fail
  refine (RR.out _).mono ?_
  rintro e w8 ⟨rfl, g8⟩
  have W6 := hide (W5.out.gr g8)
  have X6 := hide (X5.out.below g8.below X5.out.lt)
  have Y6 := hide (Y5.out.below g8.below Y5.out.lt)
  clear x0 x1 i0 i1 y2 y3 g8 W5 X5 KI5 Y5
  have y2 := (Y6.out.cell 2).trans rfl
  have y3 := (Y6.out.cell 3).trans rfl
  go_wp2_with fail
  refine (anew_all w _ B b [⟨2, 3, a, 1⟩, ⟨io, inn, 5, 0⟩] 2 rfl (by omega) W6.out).mono ?_
  rintro e w9 ⟨A9, c9, rfl, h9, hb9⟩
  have W7 := hide h9
  have X7 := hide (X6.out.below hb9 X6.out.lt)
  clear y2 y3 h9 hb9 W6 X6 Y6
  have x0 := (X7.out.cell 0).trans rfl
  have x1 := (X7.out.cell 1).trans rfl
  go_wp2_with fail
  refine (anew_stop1 w _ B b a 1 [⟨io, inn, 5, 0⟩] W7.out).mono ?_
  rintro e w10 ⟨rfl, h10, k10⟩
  have W8 := hide h10
  have X8 := hide (X7.out.grown k10 (fun e => W7.out.map.ne_blk X7.out (by injection e with e; exact e.symm)))
  clear x0 x1 h10 k10 W7 X7
  have x0 := (X8.out.cell 0).trans rfl
  have x1 := (X8.out.cell 1).trans rfl
  go_wp2_with fail
  refine (anew_stop2 w _ B b _ W8.out).mono ?_
  rintro e w11 ⟨rfl, h11, k11⟩
  have BF := hide h11.bel
  clear x0 x1 h11 k11 W8 X8
  go_wp2_with fail
  go_ret
  exact ⟨rfl, BF.out⟩

set_option maxRecDepth 100000 in
set_option maxHeartbeats 4000000 in
theorem anew_neg_no (a c t : Int) (io inn : Int) (w : World) (ha : 0 ≤ a ∧ a ≤ 65535) (hc : 0 ≤ c ∧ c ≤ 65535) (ht : Fits t) (h0 : t < 0) (hio : Fits io) (hin : Fits inn) (hr : rightB io inn = false) (he : eqId io inn 2 3 = false) :
    Calls Try.prog 6 #[.int .u16 a, .int .u16 c, .int .i64 t, .agg #[.int .i64 io, .int .i64 inn]] w fun e w' => e = .returned (.bool true) ∧ Below w.heap.size w w' := by
  have t1 : ¬ 0 ≤ t := by omega
  have t2 : decide (0 ≤ t) = false := by simp; omega
  have HA := hide ha
  have HC := hide hc
  have HT := hide ht
  have q1 := fun (W : World) => eq_id io inn 2 3 W
  have q2 := fun (W : World) => neq_id io inn 2 3 W
  rw [he] at q1 q2
  simp only [Bool.not_false] at q2
  have rr := fun (W : World) => right_any io inn W
  rw [hr] at rr
  have HE := hide he
  have HR := hide hr
  have HIO := hide hio
  have HIN := hide hin
  clear he hr hio hin
  unfold keyV at rr
  have RR := hide rr
  have hge := fun (op : BinOp) (o1 o2 : Operand) (W : World) => guard_id op o1 o2 #[.int .i64 io, .int .i64 inn] #[.int .i64 2, .int .i64 3] W
  have wc : IntKind.u64.wrap c = c := IntWalk.u64_in _ (by have := HC.out; omega)
  have wa : IntKind.u64.wrap a = a := IntWalk.u64_in _ (by have := HA.out; omega)
  obtain ⟨a0, a1⟩ := ha
  obtain ⟨c0, c1⟩ := hc
  clear ht rr
  go_enter Try.func6, Try.ntmps6
  go_wp2_with fail
  have hbx : Blk (w.alloc (.cells #[.int .i64 io, .int .i64 inn] 36)) w.heap.size 36 #[.int .i64 io, .int .i64 inn] := Blk.new _ _ _
  have hb0 : Below w.heap.size w (w.alloc (.cells #[.int .i64 io, .int .i64 inn] 36)) := (Below.refl _ _).alloc (Nat.le_refl _) _
  refine (examples_any _).mono ?_
  rintro e w1 ⟨rfl, hb1⟩
  obtain ⟨gi, hgi⟩ : ∃ g, g = w.heap.size := ⟨_, rfl⟩
  have K1 := hide (hbx.below hb1 hbx.lt)
  have B1 := hide (hb0.trans (hb1.mono hb0.size))
  rw [← hgi] at K1 ⊢
  have GI := hide (Nat.le_of_eq hgi.symm)
  clear hb1 hbx hb0 hgi
  go_wp2_with fail
  refine (new_grown w w1 B1.out).mono ?_
  rintro e w2 ⟨B, b, rfl, hw2, hk2⟩
  have K2 := hide (K1.out.below hk2 K1.out.lt)
  have hx : Blk (w2.alloc (.cells #[.int .i64 2, .int .i64 3] 36)) w2.heap.size 36 #[.int .i64 2, .int .i64 3] := Blk.new _ _ _
  have WX := hide (hw2.alloc (.cells #[.int .i64 2, .int .i64 3] 36))
  have KX := hide (K2.out.alloc (.cells #[.int .i64 2, .int .i64 3] 36))
  clear hw2 hk2 K1 K2
  go_wp2_with fail
  obtain ⟨gx, hgx⟩ : ∃ g, g = w2.heap.size := ⟨_, rfl⟩
  rw [← hgx] at hx ⊢
  have X0 := hide hx
  clear hx hgx
  refine (anew1 w _ B b a HA.out WX.out).mono ?_
  rintro e w3 ⟨rfl, h3, k3⟩
  have W1 := hide h3
  have X1 := hide (X0.out.grown k3 (fun e => WX.out.map.ne_blk X0.out (by injection e with e; exact e.symm)))
  have KI1 := hide (KX.out.grown k3 (fun e => WX.out.map.ne_blk KX.out (by injection e with e; exact e.symm)))
  have x0 := (X1.out.cell 0).trans rfl
  have x1 := (X1.out.cell 1).trans rfl
  clear h3 k3 X0 KX WX
  go_wp2_with fail
  refine (anew2_neg w _ B b a c t HC.out HT.out h0 W1.out).mono ?_
  rintro e w4 ⟨rfl, h4, k4⟩
  have W2 := hide h4
  have X2 := hide (X1.out.grown k4 (fun e => W1.out.map.ne_blk X1.out (by injection e with e; exact e.symm)))
  have KI2 := hide (KI1.out.grown k4 (fun e => W1.out.map.ne_blk KI1.out (by injection e with e; exact e.symm)))
  clear x0 x1 h4 k4 X1 KI1 W1
  have i0 := (KI2.out.cell 0).trans rfl
  have i1 := (KI2.out.cell 1).trans rfl
  go_wp2_with fail
  refine (anew3_no w _ B b a 1 io inn HIO.out HIN.out HR.out W2.out).mono ?_
  rintro e w5 ⟨rfl, h5, k5⟩
  have W3 := hide h5
  have X3 := hide (X2.out.grown k5 (fun e => W2.out.map.ne_blk X2.out (by injection e with e; exact e.symm)))
  have KI3 := hide (KI2.out.grown k5 (fun e => W2.out.map.ne_blk KI2.out (by injection e with e; exact e.symm)))
  clear h5 k5 X2 KI2 W2 i0 i1
  have x0 := (X3.out.cell 0).trans rfl
  have x1 := (X3.out.cell 1).trans rfl
  go_wp2_with fail
  refine (anew_of w _ B b a 1 [] W3.out).mono ?_
  rintro e w6 ⟨rfl, h6⟩
  have hb6 : Below w5.heap.size w5 (w6.alloc (.cells #[.int .i64 2, .int .i64 3, .int .u64 a, .int .i64 1] 47)) := h6.alloc h6.size _
  have Y4 : Hid (Blk (w6.alloc (.cells #[.int .i64 2, .int .i64 3, .int .u64 a, .int .i64 1] 47)) w6.heap.size 47 #[.int .i64 2, .int .i64 3, .int .u64 a, .int .i64 1]) := Blk.new _ _ _
  have W4 := hide (W3.out.below hb6)
  have X4 := hide (X3.out.below hb6 X3.out.lt)
  have KI4 := hide (KI3.out.below hb6 KI3.out.lt)
  clear h6 x0 x1 W3 X3 KI3 hb6
  have x0 := (X4.out.cell 0).trans rfl
  have x1 := (X4.out.cell 1).trans rfl
  have i0 := (KI4.out.cell 0).trans rfl
  have i1 := (KI4.out.cell 1).trans rfl
  go_wp2_with fail
  refine (RR.out _).mono ?_
  rintro e w7 ⟨rfl, g7⟩
  have W5 := hide (W4.out.gr g7)
  have X5 := hide (X4.out.below g7.below X4.out.lt)
  have KI5 := hide (KI4.out.below g7.below KI4.out.lt)
  have Y5 := hide (Y4.out.below g7.below Y4.out.lt)
  clear x0 x1 i0 i1 g7 W4 X4 KI4 Y4
  have x0 := (X5.out.cell 0).trans rfl
  have x1 := (X5.out.cell 1).trans rfl
  have i0 := (KI5.out.cell 0).trans rfl
  have i1 := (KI5.out.cell 1).trans rfl
  have y2 := (Y5.out.cell 2).trans rfl
  have y3 := (Y5.out.cell 3).trans rfl
  go_wp2_with fail
  refine (RR.out _).mono ?_
  rintro e w8 ⟨rfl, g8⟩
  have W6 := hide (W5.out.gr g8)
  have X6 := hide (X5.out.below g8.below X5.out.lt)
  have Y6 := hide (Y5.out.below g8.below Y5.out.lt)
  clear x0 x1 i0 i1 y2 y3 g8 W5 X5 KI5 Y5
  have y2 := (Y6.out.cell 2).trans rfl
  have y3 := (Y6.out.cell 3).trans rfl
  go_wp2_with fail
  refine (anew_all w _ B b [⟨2, 3, a, 1⟩] 1 rfl (by omega) W6.out).mono ?_
  rintro e w9 ⟨A9, c9, rfl, h9, hb9⟩
  have W7 := hide h9
  have X7 := hide (X6.out.below hb9 X6.out.lt)
  clear y2 y3 h9 hb9 W6 X6 Y6
  have x0 := (X7.out.cell 0).trans rfl
  have x1 := (X7.out.cell 1).trans rfl
  go_wp2_with fail
  refine (anew_stop1 w _ B b a 1 [] W7.out).mono ?_
  rintro e w10 ⟨rfl, h10, k10⟩
  have W8 := hide h10
  have X8 := hide (X7.out.grown k10 (fun e => W7.out.map.ne_blk X7.out (by injection e with e; exact e.symm)))
  clear x0 x1 h10 k10 W7 X7
  have x0 := (X8.out.cell 0).trans rfl
  have x1 := (X8.out.cell 1).trans rfl
  go_wp2_with fail
  refine (anew_stop2 w _ B b _ W8.out).mono ?_
  rintro e w11 ⟨rfl, h11, k11⟩
  have BF := hide h11.bel
  clear x0 x1 h11 k11 W8 X8
  go_wp2_with fail
  go_ret
  exact ⟨rfl, BF.out⟩

set_option maxRecDepth 100000 in
set_option maxHeartbeats 4000000 in
theorem anew_pos_eq (a c t : Int) (w : World) (ha : 0 ≤ a ∧ a ≤ 65535) (hc : 0 ≤ c ∧ c ≤ 65535) (ht : Fits t) (h0 : 0 ≤ t) :
    Calls Try.prog 6 #[.int .u16 a, .int .u16 c, .int .i64 t, .agg #[.int .i64 2, .int .i64 3]] w fun e w' => e = .returned (.bool true) ∧ Below w.heap.size w w' := by
  have t1 : ¬ t < 0 := by omega
  have t2 : decide (0 ≤ t) = true := by simpa using h0
  have HA := hide ha
  have HC := hide hc
  have HT := hide ht
  have q1 := fun (W : World) => eq_id 2 3 2 3 W
  have q2 := fun (W : World) => neq_id 2 3 2 3 W
  rw [show eqId 2 3 2 3 = true from rfl] at q1 q2
  simp only [Bool.not_true] at q2
  have rr := fun (W : World) => right_any 2 3 W
  rw [show rightB 2 3 = true from rfl] at rr
  unfold keyV at rr
  have RR := hide rr
  have hge := fun (op : BinOp) (o1 o2 : Operand) (W : World) => guard_id op o1 o2 #[.int .i64 2, .int .i64 3] #[.int .i64 2, .int .i64 3] W
  have wc : IntKind.u64.wrap c = c := IntWalk.u64_in _ (by have := HC.out; omega)
  have wa : IntKind.u64.wrap a = a := IntWalk.u64_in _ (by have := HA.out; omega)
  obtain ⟨a0, a1⟩ := ha
  obtain ⟨c0, c1⟩ := hc
  clear ht rr
  go_enter Try.func6, Try.ntmps6
  go_wp2_with fail
  have hbx : Blk (w.alloc (.cells #[.int .i64 2, .int .i64 3] 36)) w.heap.size 36 #[.int .i64 2, .int .i64 3] := Blk.new _ _ _
  have hb0 : Below w.heap.size w (w.alloc (.cells #[.int .i64 2, .int .i64 3] 36)) := (Below.refl _ _).alloc (Nat.le_refl _) _
  refine (examples_any _).mono ?_
  rintro e w1 ⟨rfl, hb1⟩
  obtain ⟨gi, hgi⟩ : ∃ g, g = w.heap.size := ⟨_, rfl⟩
  have K1 := hide (hbx.below hb1 hbx.lt)
  have B1 := hide (hb0.trans (hb1.mono hb0.size))
  rw [← hgi] at K1 ⊢
  have GI := hide (Nat.le_of_eq hgi.symm)
  clear hb1 hbx hb0 hgi
  go_wp2_with fail
  refine (new_grown w w1 B1.out).mono ?_
  rintro e w2 ⟨B, b, rfl, hw2, hk2⟩
  have K2 := hide (K1.out.below hk2 K1.out.lt)
  have hx : Blk (w2.alloc (.cells #[.int .i64 2, .int .i64 3] 36)) w2.heap.size 36 #[.int .i64 2, .int .i64 3] := Blk.new _ _ _
  have WX := hide (hw2.alloc (.cells #[.int .i64 2, .int .i64 3] 36))
  have KX := hide (K2.out.alloc (.cells #[.int .i64 2, .int .i64 3] 36))
  clear hw2 hk2 K1 K2
  go_wp2_with fail
  obtain ⟨gx, hgx⟩ : ∃ g, g = w2.heap.size := ⟨_, rfl⟩
  rw [← hgx] at hx ⊢
  have X0 := hide hx
  clear hx hgx
  refine (anew1 w _ B b a HA.out WX.out).mono ?_
  rintro e w3 ⟨rfl, h3, k3⟩
  have W1 := hide h3
  have X1 := hide (X0.out.grown k3 (fun e => WX.out.map.ne_blk X0.out (by injection e with e; exact e.symm)))
  have KI1 := hide (KX.out.grown k3 (fun e => WX.out.map.ne_blk KX.out (by injection e with e; exact e.symm)))
  have x0 := (X1.out.cell 0).trans rfl
  have x1 := (X1.out.cell 1).trans rfl
  clear h3 k3 X0 KX WX
  go_wp2_with fail
  refine (anew2_pos w _ B b a c t HC.out HT.out h0 W1.out).mono ?_
  rintro e w4 ⟨rfl, h4, k4⟩
  have W2 := hide h4
  have X2 := hide (X1.out.grown k4 (fun e => W1.out.map.ne_blk X1.out (by injection e with e; exact e.symm)))
  have KI2 := hide (KI1.out.grown k4 (fun e => W1.out.map.ne_blk KI1.out (by injection e with e; exact e.symm)))
  clear x0 x1 h4 k4 X1 KI1 W1
  have i0 := (KI2.out.cell 0).trans rfl
  have i1 := (KI2.out.cell 1).trans rfl
  go_wp2_with fail
  refine (anew3_eq w _ B b c t W2.out).mono ?_
  rintro e w5 ⟨rfl, h5, k5⟩
  have W3 := hide h5
  have X3 := hide (X2.out.grown k5 (fun e => W2.out.map.ne_blk X2.out (by injection e with e; exact e.symm)))
  have KI3 := hide (KI2.out.grown k5 (fun e => W2.out.map.ne_blk KI2.out (by injection e with e; exact e.symm)))
  clear h5 k5 X2 KI2 W2 i0 i1
  have x0 := (X3.out.cell 0).trans rfl
  have x1 := (X3.out.cell 1).trans rfl
  go_wp2_with fail
  refine (anew_of w _ B b 5 0 [] W3.out).mono ?_
  rintro e w6 ⟨rfl, h6⟩
  have hb6 : Below w5.heap.size w5 (w6.alloc (.cells #[.int .i64 2, .int .i64 3, .int .u64 5, .int .i64 0] 47)) := h6.alloc h6.size _
  have Y4 : Hid (Blk (w6.alloc (.cells #[.int .i64 2, .int .i64 3, .int .u64 5, .int .i64 0] 47)) w6.heap.size 47 #[.int .i64 2, .int .i64 3, .int .u64 5, .int .i64 0]) := Blk.new _ _ _
  have W4 := hide (W3.out.below hb6)
  have X4 := hide (X3.out.below hb6 X3.out.lt)
  have KI4 := hide (KI3.out.below hb6 KI3.out.lt)
  clear h6 x0 x1 W3 X3 KI3 hb6
  have x0 := (X4.out.cell 0).trans rfl
  have x1 := (X4.out.cell 1).trans rfl
  have i0 := (KI4.out.cell 0).trans rfl
  have i1 := (KI4.out.cell 1).trans rfl
  go_wp2_with fail
  refine (RR.out _).mono ?_
  rintro e w7 ⟨rfl, g7⟩
  have W5 := hide (W4.out.gr g7)
  have X5 := hide (X4.out.below g7.below X4.out.lt)
  have KI5 := hide (KI4.out.below g7.below KI4.out.lt)
  have Y5 := hide (Y4.out.below g7.below Y4.out.lt)
  clear x0 x1 i0 i1 g7 W4 X4 KI4 Y4
  have x0 := (X5.out.cell 0).trans rfl
  have x1 := (X5.out.cell 1).trans rfl
  have i0 := (KI5.out.cell 0).trans rfl
  have i1 := (KI5.out.cell 1).trans rfl
  have y2 := (Y5.out.cell 2).trans rfl
  have y3 := (Y5.out.cell 3).trans rfl
  go_wp2_with fail
  refine (RR.out _).mono ?_
  rintro e w8 ⟨rfl, g8⟩
  have W6 := hide (W5.out.gr g8)
  have X6 := hide (X5.out.below g8.below X5.out.lt)
  have Y6 := hide (Y5.out.below g8.below Y5.out.lt)
  clear x0 x1 i0 i1 y2 y3 g8 W5 X5 KI5 Y5
  have y2 := (Y6.out.cell 2).trans rfl
  have y3 := (Y6.out.cell 3).trans rfl
  go_wp2_with fail
  refine (anew_all w _ B b [⟨2, 3, 5, 0⟩] 1 rfl (by omega) W6.out).mono ?_
  rintro e w9 ⟨A9, c9, rfl, h9, hb9⟩
  have W7 := hide h9
  have X7 := hide (X6.out.below hb9 X6.out.lt)
  clear y2 y3 h9 hb9 W6 X6 Y6
  have x0 := (X7.out.cell 0).trans rfl
  have x1 := (X7.out.cell 1).trans rfl
  go_wp2_with fail
  refine (anew_stop1 w _ B b 5 0 [] W7.out).mono ?_
  rintro e w10 ⟨rfl, h10, k10⟩
  have W8 := hide h10
  have X8 := hide (X7.out.grown k10 (fun e => W7.out.map.ne_blk X7.out (by injection e with e; exact e.symm)))
  clear x0 x1 h10 k10 W7 X7
  have x0 := (X8.out.cell 0).trans rfl
  have x1 := (X8.out.cell 1).trans rfl
  go_wp2_with fail
  refine (anew_stop2 w _ B b _ W8.out).mono ?_
  rintro e w11 ⟨rfl, h11, k11⟩
  have BF := hide h11.bel
  clear x0 x1 h11 k11 W8 X8
  go_wp2_with fail
  go_ret
  exact ⟨rfl, BF.out⟩

set_option maxRecDepth 100000 in
set_option maxHeartbeats 4000000 in
theorem anew_pos_new (a c t : Int) (io inn : Int) (w : World) (ha : 0 ≤ a ∧ a ≤ 65535) (hc : 0 ≤ c ∧ c ≤ 65535) (ht : Fits t) (h0 : 0 ≤ t) (hio : Fits io) (hin : Fits inn) (hr : rightB io inn = true) (he : eqId io inn 2 3 = false) :
    Calls Try.prog 6 #[.int .u16 a, .int .u16 c, .int .i64 t, .agg #[.int .i64 io, .int .i64 inn]] w fun e w' => e = .returned (.bool true) ∧ Below w.heap.size w w' := by
  have t1 : ¬ t < 0 := by omega
  have t2 : decide (0 ≤ t) = true := by simpa using h0
  have HA := hide ha
  have HC := hide hc
  have HT := hide ht
  have q1 := fun (W : World) => eq_id io inn 2 3 W
  have q2 := fun (W : World) => neq_id io inn 2 3 W
  rw [he] at q1 q2
  simp only [Bool.not_false] at q2
  have rr := fun (W : World) => right_any io inn W
  rw [hr] at rr
  have HE := hide he
  have HR := hide hr
  have HIO := hide hio
  have HIN := hide hin
  clear he hr hio hin
  unfold keyV at rr
  have RR := hide rr
  have hge := fun (op : BinOp) (o1 o2 : Operand) (W : World) => guard_id op o1 o2 #[.int .i64 io, .int .i64 inn] #[.int .i64 2, .int .i64 3] W
  have wc : IntKind.u64.wrap c = c := IntWalk.u64_in _ (by have := HC.out; omega)
  have wa : IntKind.u64.wrap a = a := IntWalk.u64_in _ (by have := HA.out; omega)
  obtain ⟨a0, a1⟩ := ha
  obtain ⟨c0, c1⟩ := hc
  clear ht rr
  go_enter Try.func6, Try.ntmps6
  go_wp2_with fail
  have hbx : Blk (w.alloc (.cells #[.int .i64 io, .int .i64 inn] 36)) w.heap.size 36 #[.int .i64 io, .int .i64 inn] := Blk.new _ _ _
  have hb0 : Below w.heap.size w (w.alloc (.cells #[.int .i64 io, .int .i64 inn] 36)) := (Below.refl _ _).alloc (Nat.le_refl _) _
  refine (examples_any _).mono ?_
  rintro e w1 ⟨rfl, hb1⟩
  obtain ⟨gi, hgi⟩ : ∃ g, g = w.heap.size := ⟨_, rfl⟩
  have K1 := hide (hbx.below hb1 hbx.lt)
  have B1 := hide (hb0.trans (hb1.mono hb0.size))
  rw [← hgi] at K1 ⊢
  have GI := hide (Nat.le_of_eq hgi.symm)
  clear hb1 hbx hb0 hgi
  go_wp2_with fail
  refine (new_grown w w1 B1.out).mono ?_
  rintro e w2 ⟨B, b, rfl, hw2, hk2⟩
  have K2 := hide (K1.out.below hk2 K1.out.lt)
  have hx : Blk (w2.alloc (.cells #[.int .i64 2, .int .i64 3] 36)) w2.heap.size 36 #[.int .i64 2, .int .i64 3] := Blk.new _ _ _
  have WX := hide (hw2.alloc (.cells #[.int .i64 2, .int .i64 3] 36))
  have KX := hide (K2.out.alloc (.cells #[.int .i64 2, .int .i64 3] 36))
  clear hw2 hk2 K1 K2
  go_wp2_with fail
  obtain ⟨gx, hgx⟩ : ∃ g, g = w2.heap.size := ⟨_, rfl⟩
  rw [← hgx] at hx ⊢
  have X0 := hide hx
  clear hx hgx
  refine (anew1 w _ B b a HA.out WX.out).mono ?_
  rintro e w3 ⟨rfl, h3, k3⟩
  have W1 := hide h3
  have X1 := hide (X0.out.grown k3 (fun e => WX.out.map.ne_blk X0.out (by injection e with e; exact e.symm)))
  have KI1 := hide (KX.out.grown k3 (fun e => WX.out.map.ne_blk KX.out (by injection e with e; exact e.symm)))
  have x0 := (X1.out.cell 0).trans rfl
  have x1 := (X1.out.cell 1).trans rfl
  clear h3 k3 X0 KX WX
  go_wp2_with fail
  refine (anew2_pos w _ B b a c t HC.out HT.out h0 W1.out).mono ?_
  rintro e w4 ⟨rfl, h4, k4⟩
  have W2 := hide h4
  have X2 := hide (X1.out.grown k4 (fun e => W1.out.map.ne_blk X1.out (by injection e with e; exact e.symm)))
  have KI2 := hide (KI1.out.grown k4 (fun e => W1.out.map.ne_blk KI1.out (by injection e with e; exact e.symm)))
  clear x0 x1 h4 k4 X1 KI1 W1
  have i0 := (KI2.out.cell 0).trans rfl
  have i1 := (KI2.out.cell 1).trans rfl
  go_wp2_with fail
  refine (anew3_new w _ B b c t io inn HIO.out HIN.out HR.out HE.out W2.out).mono ?_
  rintro e w5 ⟨rfl, h5, k5⟩
  have W3 := hide h5
  have X3 := hide (X2.out.grown k5 (fun e => W2.out.map.ne_blk X2.out (by injection e with e; exact e.symm)))
  have KI3 := hide (KI2.out.grown k5 (fun e => W2.out.map.ne_blk KI2.out (by injection e with e; exact e.symm)))
  clear h5 k5 X2 KI2 W2 i0 i1
  have x0 := (X3.out.cell 0).trans rfl
  have x1 := (X3.out.cell 1).trans rfl
  go_wp2_with fail
  refine (anew_of w _ B b c t [⟨io, inn, 5, 0⟩] W3.out).mono ?_
  rintro e w6 ⟨rfl, h6⟩
  have hb6 : Below w5.heap.size w5 (w6.alloc (.cells #[.int .i64 2, .int .i64 3, .int .u64 c, .int .i64 t] 47)) := h6.alloc h6.size _
  have Y4 : Hid (Blk (w6.alloc (.cells #[.int .i64 2, .int .i64 3, .int .u64 c, .int .i64 t] 47)) w6.heap.size 47 #[.int .i64 2, .int .i64 3, .int .u64 c, .int .i64 t]) := Blk.new _ _ _
  have W4 := hide (W3.out.below hb6)
  have X4 := hide (X3.out.below hb6 X3.out.lt)
  have KI4 := hide (KI3.out.below hb6 KI3.out.lt)
  clear h6 x0 x1 W3 X3 KI3 hb6
  have x0 := (X4.out.cell 0).trans rfl
  have x1 := (X4.out.cell 1).trans rfl
  have i0 := (KI4.out.cell 0).trans rfl
  have i1 := (KI4.out.cell 1).trans rfl
  go_wp2_with fail
  refine (RR.out _).mono ?_
  rintro e w7 ⟨rfl, g7⟩
  have W5 := hide (W4.out.gr g7)
  have X5 := hide (X4.out.below g7.below X4.out.lt)
  have KI5 := hide (KI4.out.below g7.below KI4.out.lt)
  have Y5 := hide (Y4.out.below g7.below Y4.out.lt)
  clear x0 x1 i0 i1 g7 W4 X4 KI4 Y4
  have x0 := (X5.out.cell 0).trans rfl
  have x1 := (X5.out.cell 1).trans rfl
  have i0 := (KI5.out.cell 0).trans rfl
  have i1 := (KI5.out.cell 1).trans rfl
  have y2 := (Y5.out.cell 2).trans rfl
  have y3 := (Y5.out.cell 3).trans rfl
  go_wp2_with fail
  refine (RR.out _).mono ?_
  rintro e w8 ⟨rfl, g8⟩
  have W6 := hide (W5.out.gr g8)
  have X6 := hide (X5.out.below g8.below X5.out.lt)
  have Y6 := hide (Y5.out.below g8.below Y5.out.lt)
  clear x0 x1 i0 i1 y2 y3 g8 W5 X5 KI5 Y5
  have y2 := (Y6.out.cell 2).trans rfl
  have y3 := (Y6.out.cell 3).trans rfl
  go_wp2_with fail
  refine (anew_all w _ B b [⟨2, 3, c, t⟩, ⟨io, inn, 5, 0⟩] 2 rfl (by omega) W6.out).mono ?_
  rintro e w9 ⟨A9, c9, rfl, h9, hb9⟩
  have W7 := hide h9
  have X7 := hide (X6.out.below hb9 X6.out.lt)
  clear y2 y3 h9 hb9 W6 X6 Y6
  have x0 := (X7.out.cell 0).trans rfl
  have x1 := (X7.out.cell 1).trans rfl
  go_wp2_with fail
  refine (anew_stop1 w _ B b c t [⟨io, inn, 5, 0⟩] W7.out).mono ?_
  rintro e w10 ⟨rfl, h10, k10⟩
  have W8 := hide h10
  have X8 := hide (X7.out.grown k10 (fun e => W7.out.map.ne_blk X7.out (by injection e with e; exact e.symm)))
  clear x0 x1 h10 k10 W7 X7
  have x0 := (X8.out.cell 0).trans rfl
  have x1 := (X8.out.cell 1).trans rfl
  go_wp2_with fail
  refine (anew_stop2 w _ B b _ W8.out).mono ?_
  rintro e w11 ⟨rfl, h11, k11⟩
  have BF := hide h11.bel
  clear x0 x1 h11 k11 W8 X8
  go_wp2_with fail
  go_ret
  exact ⟨rfl, BF.out⟩

set_option maxRecDepth 100000 in
set_option maxHeartbeats 4000000 in
theorem anew_pos_no (a c t : Int) (io inn : Int) (w : World) (ha : 0 ≤ a ∧ a ≤ 65535) (hc : 0 ≤ c ∧ c ≤ 65535) (ht : Fits t) (h0 : 0 ≤ t) (hio : Fits io) (hin : Fits inn) (hr : rightB io inn = false) (he : eqId io inn 2 3 = false) :
    Calls Try.prog 6 #[.int .u16 a, .int .u16 c, .int .i64 t, .agg #[.int .i64 io, .int .i64 inn]] w fun e w' => e = .returned (.bool true) ∧ Below w.heap.size w w' := by
  have t1 : ¬ t < 0 := by omega
  have t2 : decide (0 ≤ t) = true := by simpa using h0
  have HA := hide ha
  have HC := hide hc
  have HT := hide ht
  have q1 := fun (W : World) => eq_id io inn 2 3 W
  have q2 := fun (W : World) => neq_id io inn 2 3 W
  rw [he] at q1 q2
  simp only [Bool.not_false] at q2
  have rr := fun (W : World) => right_any io inn W
  rw [hr] at rr
  have HE := hide he
  have HR := hide hr
  have HIO := hide hio
  have HIN := hide hin
  clear he hr hio hin
  unfold keyV at rr
  have RR := hide rr
  have hge := fun (op : BinOp) (o1 o2 : Operand) (W : World) => guard_id op o1 o2 #[.int .i64 io, .int .i64 inn] #[.int .i64 2, .int .i64 3] W
  have wc : IntKind.u64.wrap c = c := IntWalk.u64_in _ (by have := HC.out; omega)
  have wa : IntKind.u64.wrap a = a := IntWalk.u64_in _ (by have := HA.out; omega)
  obtain ⟨a0, a1⟩ := ha
  obtain ⟨c0, c1⟩ := hc
  clear ht rr
  go_enter Try.func6, Try.ntmps6
  go_wp2_with fail
  have hbx : Blk (w.alloc (.cells #[.int .i64 io, .int .i64 inn] 36)) w.heap.size 36 #[.int .i64 io, .int .i64 inn] := Blk.new _ _ _
  have hb0 : Below w.heap.size w (w.alloc (.cells #[.int .i64 io, .int .i64 inn] 36)) := (Below.refl _ _).alloc (Nat.le_refl _) _
  refine (examples_any _).mono ?_
  rintro e w1 ⟨rfl, hb1⟩
  obtain ⟨gi, hgi⟩ : ∃ g, g = w.heap.size := ⟨_, rfl⟩
  have K1 := hide (hbx.below hb1 hbx.lt)
  have B1 := hide (hb0.trans (hb1.mono hb0.size))
  rw [← hgi] at K1 ⊢
  have GI := hide (Nat.le_of_eq hgi.symm)
  clear hb1 hbx hb0 hgi
  go_wp2_with fail
  refine (new_grown w w1 B1.out).mono ?_
  rintro e w2 ⟨B, b, rfl, hw2, hk2⟩
  have K2 := hide (K1.out.below hk2 K1.out.lt)
  have hx : Blk (w2.alloc (.cells #[.int .i64 2, .int .i64 3] 36)) w2.heap.size 36 #[.int .i64 2, .int .i64 3] := Blk.new _ _ _
  have WX := hide (hw2.alloc (.cells #[.int .i64 2, .int .i64 3] 36))
  have KX := hide (K2.out.alloc (.cells #[.int .i64 2, .int .i64 3] 36))
  clear hw2 hk2 K1 K2
  go_wp2_with fail
  obtain ⟨gx, hgx⟩ : ∃ g, g = w2.heap.size := ⟨_, rfl⟩
  rw [← hgx] at hx ⊢
  have X0 := hide hx
  clear hx hgx
  refine (anew1 w _ B b a HA.out WX.out).mono ?_
  rintro e w3 ⟨rfl, h3, k3⟩
  have W1 := hide h3
  have X1 := hide (X0.out.grown k3 (fun e => WX.out.map.ne_blk X0.out (by injection e with e; exact e.symm)))
  have KI1 := hide (KX.out.grown k3 (fun e => WX.out.map.ne_blk KX.out (by injection e with e; exact e.symm)))
  have x0 := (X1.out.cell 0).trans rfl
  have x1 := (X1.out.cell 1).trans rfl
  clear h3 k3 X0 KX WX
  go_wp2_with fail
  refine (anew2_pos w _ B b a c t HC.out HT.out h0 W1.out).mono ?_
  rintro e w4 ⟨rfl, h4, k4⟩
  have W2 := hide h4
  have X2 := hide (X1.out.grown k4 (fun e => W1.out.map.ne_blk X1.out (by injection e with e; exact e.symm)))
  have KI2 := hide (KI1.out.grown k4 (fun e => W1.out.map.ne_blk KI1.out (by injection e with e; exact e.symm)))
  clear x0 x1 h4 k4 X1 KI1 W1
  have i0 := (KI2.out.cell 0).trans rfl
  have i1 := (KI2.out.cell 1).trans rfl
  go_wp2_with fail
  refine (anew3_no w _ B b c t io inn HIO.out HIN.out HR.out W2.out).mono ?_
  rintro e w5 ⟨rfl, h5, k5⟩
  have W3 := hide h5
  have X3 := hide (X2.out.grown k5 (fun e => W2.out.map.ne_blk X2.out (by injection e with e; exact e.symm)))
  have KI3 := hide (KI2.out.grown k5 (fun e => W2.out.map.ne_blk KI2.out (by injection e with e; exact e.symm)))
  clear h5 k5 X2 KI2 W2 i0 i1
  have x0 := (X3.out.cell 0).trans rfl
  have x1 := (X3.out.cell 1).trans rfl
  go_wp2_with fail
  refine (anew_of w _ B b c t [] W3.out).mono ?_
  rintro e w6 ⟨rfl, h6⟩
  have hb6 : Below w5.heap.size w5 (w6.alloc (.cells #[.int .i64 2, .int .i64 3, .int .u64 c, .int .i64 t] 47)) := h6.alloc h6.size _
  have Y4 : Hid (Blk (w6.alloc (.cells #[.int .i64 2, .int .i64 3, .int .u64 c, .int .i64 t] 47)) w6.heap.size 47 #[.int .i64 2, .int .i64 3, .int .u64 c, .int .i64 t]) := Blk.new _ _ _
  have W4 := hide (W3.out.below hb6)
  have X4 := hide (X3.out.below hb6 X3.out.lt)
  have KI4 := hide (KI3.out.below hb6 KI3.out.lt)
  clear h6 x0 x1 W3 X3 KI3 hb6
  have x0 := (X4.out.cell 0).trans rfl
  have x1 := (X4.out.cell 1).trans rfl
  have i0 := (KI4.out.cell 0).trans rfl
  have i1 := (KI4.out.cell 1).trans rfl
  go_wp2_with fail
  refine (RR.out _).mono ?_
  rintro e w7 ⟨rfl, g7⟩
  have W5 := hide (W4.out.gr g7)
  have X5 := hide (X4.out.below g7.below X4.out.lt)
  have KI5 := hide (KI4.out.below g7.below KI4.out.lt)
  have Y5 := hide (Y4.out.below g7.below Y4.out.lt)
  clear x0 x1 i0 i1 g7 W4 X4 KI4 Y4
  have x0 := (X5.out.cell 0).trans rfl
  have x1 := (X5.out.cell 1).trans rfl
  have i0 := (KI5.out.cell 0).trans rfl
  have i1 := (KI5.out.cell 1).trans rfl
  have y2 := (Y5.out.cell 2).trans rfl
  have y3 := (Y5.out.cell 3).trans rfl
  go_wp2_with fail
  refine (RR.out _).mono ?_
  rintro e w8 ⟨rfl, g8⟩
  have W6 := hide (W5.out.gr g8)
  have X6 := hide (X5.out.below g8.below X5.out.lt)
  have Y6 := hide (Y5.out.below g8.below Y5.out.lt)
  clear x0 x1 i0 i1 y2 y3 g8 W5 X5 KI5 Y5
  have y2 := (Y6.out.cell 2).trans rfl
  have y3 := (Y6.out.cell 3).trans rfl
  go_wp2_with fail
  refine (anew_all w _ B b [⟨2, 3, c, t⟩] 1 rfl (by omega) W6.out).mono ?_
  rintro e w9 ⟨A9, c9, rfl, h9, hb9⟩
  have W7 := hide h9
  have X7 := hide (X6.out.below hb9 X6.out.lt)
  clear y2 y3 h9 hb9 W6 X6 Y6
  have x0 := (X7.out.cell 0).trans rfl
  have x1 := (X7.out.cell 1).trans rfl
  go_wp2_with fail
  refine (anew_stop1 w _ B b c t [] W7.out).mono ?_
  rintro e w10 ⟨rfl, h10, k10⟩
  have W8 := hide h10
  have X8 := hide (X7.out.grown k10 (fun e => W7.out.map.ne_blk X7.out (by injection e with e; exact e.symm)))
  clear x0 x1 h10 k10 W7 X7
  have x0 := (X8.out.cell 0).trans rfl
  have x1 := (X8.out.cell 1).trans rfl
  go_wp2_with fail
  refine (anew_stop2 w _ B b _ W8.out).mono ?_
  rintro e w11 ⟨rfl, h11, k11⟩
  have BF := hide h11.bel
  clear x0 x1 h11 k11 W8 X8
  go_wp2_with fail
  go_ret
  exact ⟨rfl, BF.out⟩

end Go.Proofs.Ytflalllbplcgbaa
