/-
  Chapter 05: is a number a part of a place: walked through its text.
-/
import Derived.Test.YteciaffioiiceabRows
import Derived.Test.YteciaffioiiceabK
import Derived.WalkKit
import Derived.WalkSpells
import Derived.WalkLawsBesides
import Derived.StillTailTactics
import Derived.BigQuiet
import Derived.Lib.Hide
namespace Go.Proofs.Yteciaffioiiceab
open Go.RowKit

theorem mixed : Try.prog.follows .mixedOrders = true := by kernel_rfl

/-- What math.Trunc gives at a number that is one. -/
def truncB (x : Nat) : Nat := FloatKind.f64.encode ((FloatKind.f64.decode x).integral .zero)

theorem trunc_form (x : Nat) : ∃ N : Bool → Nat → Sem Value, Extern.MathFloor.toIntegral "math.archTrunc" .zero #[.float .f64 x] =
    match FloatKind.f64.decode x with | .nan s t => N s t | d => pure (.float .f64 (FloatKind.f64.encode (d.integral .zero))) := ⟨_, rfl⟩

theorem run_trunc (x : Nat) (w : World) (h : ∀ s t, FloatKind.f64.decode x ≠ .nan s t) : (callFunc 20 #[.float .f64 x]).run Try.prog w = .ok (.value (.float .f64 (truncB x))) w := by
  rw [run_callFunc_extern (e := Extern.MathFloor.toIntegral "math.archTrunc" .zero) Try.func20 (by kernel_rfl) (by kernel_rfl) (by kernel_rfl) (by rfl)]
  obtain ⟨N, hN⟩ := trunc_form x
  rw [hN]
  unfold truncB
  generalize FloatKind.f64.decode x = d at h ⊢
  cases d with
  | nan s t => exact absurd rfl (h s t)
  | _ => rfl

set_option maxHeartbeats 400000 in
theorem trunc_any (x : Nat) (w : World) (h : ∀ s t, FloatKind.f64.decode x ≠ .nan s t) :
    Calls Try.prog 17 #[.float .f64 x] w fun e w' => e = .returned (.float .f64 (truncB x)) ∧ w = w' := by
  have hr := run_trunc x w h
  clear h
  go_enter Try.func17, Try.ntmps17
  go_wp2_with fail
  go_ret
  exact ⟨rfl, rfl⟩

/-- No number that is none. -/
def isNum (x : Nat) : Bool := match FloatKind.f64.decode x with | .nan _ _ => false | _ => true
theorem isNum_ne {x : Nat} (h : isNum x = true) : ∀ s t, FloatKind.f64.decode x ≠ .nan s t := by
  intro s t e
  simp [isNum, e] at h

def leB (x y : Nat) : Bool := FloatKind.f64.format.order x y == some .lt || FloatKind.f64.format.order x y == some .eq
def geB (x y : Nat) : Bool := FloatKind.f64.format.order x y == some .gt || FloatKind.f64.format.order x y == some .eq
def eqB (x y : Nat) : Bool := FloatKind.f64.format.order x y == some .eq
def partB (x : Nat) : Bool := geB x 13890095209322119168 && leB x 4666723172467343360 && eqB x (truncB x)

set_option maxHeartbeats 400000 in
theorem part_any (x : Nat) (w : World) (h : isNum x = true) :
    Calls Try.prog 14 #[.float .f64 x] w fun e w' => e = .returned (.bool (partB x)) ∧ w = w' := by
  have H := hide (isNum_ne h)
  clear h
  obtain ⟨r, hr⟩ : ∃ r, r = partB x := ⟨_, rfl⟩
  rw [← hr]
  simp only [partB, geB, leB, eqB] at hr
  have R := hide hr
  clear hr
  go_enter Try.func14, Try.ntmps14
  go_wp2_with (go_at_call 17; refine (trunc_any x _ H.out).mono ?_; rintro e w' ⟨rfl, rfl⟩)
  all_goals
    have HR := R.out
    go_ret
    exact ⟨by simp_all, rfl⟩


def rightB (a b : Nat) : Bool := partB a && partB b

set_option maxHeartbeats 400000 in
theorem right_any (a b : Nat) (w : World) (ha : isNum a = true) (hb : isNum b = true) :
    Calls Try.prog 10 #[.complex .f64 a b] w fun e w' => e = .returned (.bool (rightB a b)) ∧ w = w' := by
  have HA := hide ha
  have HB := hide hb
  clear ha hb
  unfold rightB
  cases hx : partB a with
  | true =>
    have X := hide hx
    clear hx
    simp only [Bool.true_and]
    go_enter Try.func10, Try.ntmps10
    go_wp2_with fail
    refine (part_any a _ HA.out).mono ?_
    rw [X.out]
    rintro e w' ⟨rfl, rfl⟩
    go_wp2_with fail
    refine (part_any b _ HB.out).mono ?_
    rintro e w' ⟨rfl, rfl⟩
    go_wp2_with fail
    go_ret
    exact ⟨rfl, rfl⟩
  | false =>
    have X := hide hx
    clear hx
    simp only [Bool.false_and]
    go_enter Try.func10, Try.ntmps10
    go_wp2_with fail
    refine (part_any a _ HA.out).mono ?_
    rw [X.out]
    rintro e w' ⟨rfl, rfl⟩
    go_wp2_with fail
    go_ret
    exact ⟨rfl, rfl⟩

/-- The square of how far one is from the other, as the program reckons it. -/
def negB (x : Nat) : Nat := Op.negFloat .f64 x
def farB (a b c d : Nat) : Option Int :=
  if rightB a b && rightB c d then
    (cSumBits .sub .f64 a b c d).bind fun p => (cMulBits p.1 p.2 p.1 (negB p.2)).bind fun q => floatToIntVal .f64 q.1 .u64
  else some 0

set_option maxHeartbeats 400000 in
theorem far_any (a b c d : Nat) (r : Int) (w : World) (ha : isNum a = true) (hb : isNum b = true) (hc : isNum c = true) (hd : isNum d = true) (h : farB a b c d = some r) :
    Calls Try.prog 8 #[.complex .f64 a b, .complex .f64 c d] w fun e w' => e = .returned (.int .u64 r) ∧ w = w' := by
  have HA := hide ha
  have HB := hide hb
  have HC := hide hc
  have HD := hide hd
  clear ha hb hc hd
  unfold farB at h
  cases hx : rightB a b with
  | true =>
    cases hy : rightB c d with
    | true =>
      have X := hide hx
      have Y := hide hy
      simp only [hx, hy, Bool.and_self, if_true] at h
      obtain ⟨p, hp, h⟩ := Option.bind_eq_some_iff.1 h
      obtain ⟨q, hq, h⟩ := Option.bind_eq_some_iff.1 h
      clear hx hy
      have e1 := fun (W : World) => run_complex_sum (P := Try.prog) W .sub (.inr rfl) 28 .f64 a b c d p.1 p.2 hp
      have e2 := fun (W : World) => run_complex_mul (P := Try.prog) W 28 p.1 p.2 p.1 (negB p.2) q.1 q.2 hq
      have e3 := fun (W : World) => run_convert_float_int (P := Try.prog) W 37 30 .f64 .u64 q.1 r (by kernel_rfl) Try.underlying30 h
      have e4 : ∀ W : World, Sem.run Try.prog (Op.unary UnOp.neg (.float .f64 p.2)) W = .ok (.float .f64 (negB p.2)) W := fun W => rfl
      clear hp hq h
      go_enter Try.func8, Try.ntmps8
      go_wp2_with fail
      refine (right_any a b _ HA.out HB.out).mono ?_
      rw [X.out]
      rintro e w' ⟨rfl, rfl⟩
      go_wp2_with fail
      refine (right_any c d _ HC.out HD.out).mono ?_
      rw [Y.out]
      rintro e w' ⟨rfl, rfl⟩
      go_wp2_with fail
      go_ret
      exact ⟨rfl, rfl⟩
    | false =>
      have X := hide hx
      have Y := hide hy
      simp only [hx, hy, Bool.and_false, Bool.false_eq_true, if_false, Option.some.injEq] at h
      subst h
      clear hx hy
      go_enter Try.func8, Try.ntmps8
      go_wp2_with fail
      refine (right_any a b _ HA.out HB.out).mono ?_
      rw [X.out]
      rintro e w' ⟨rfl, rfl⟩
      go_wp2_with fail
      refine (right_any c d _ HC.out HD.out).mono ?_
      rw [Y.out]
      rintro e w' ⟨rfl, rfl⟩
      go_wp2_with fail
      go_ret
      exact ⟨rfl, rfl⟩
  | false =>
    have X := hide hx
    simp only [hx, Bool.false_and, Bool.false_eq_true, if_false, Option.some.injEq] at h
    subst h
    clear hx
    go_enter Try.func8, Try.ntmps8
    go_wp2_with fail
    refine (right_any a b _ HA.out HB.out).mono ?_
    rw [X.out]
    rintro e w' ⟨rfl, rfl⟩
    go_wp2_with fail
    go_ret
    exact ⟨rfl, rfl⟩

/-- So many quarters turned. -/
def turnB : Nat → Nat × Nat → Option (Nat × Nat)
  | 0, p => cSumBits .add .f64 p.1 p.2 0 0
  | k + 1, p => (cMulBits p.1 p.2 0 4607182418800017408).bind fun q => turnB k q
def spinB (a b : Nat) (left : Nat) : Option (Nat × Nat) := turnB left (if rightB a b then (a, b) else (0, 0))

set_option maxHeartbeats 400000 in
theorem spin_any (a b : Nat) (d : Int) (left : Nat) (r : Nat × Nat) (w : World) (ha : isNum a = true) (hb : isNum b = true) (h : spinB a b left = some r)
    (hl : (wrap64 (d.tmod 4 + 4)).tmod 4 = (left : Int)) (h4 : left ≤ 3) :
    Calls Try.prog 9 #[.complex .f64 a b, .int .i64 d] w fun e w' => e = .returned (.complex .f64 r.1 r.2) ∧ w = w' := by
  have HA := hide ha
  have HB := hide hb
  clear ha hb
  unfold spinB at h
  obtain ⟨p0, hp0⟩ : ∃ p, p = if rightB a b then (a, b) else ((0, 0) : Nat × Nat) := ⟨_, rfl⟩
  rw [← hp0] at h
  have H := hide h
  have HP := hide hp0
  clear h hp0
  go_enter Try.func9, Try.ntmps9
  go_wp2_with fail
  refine wp_scope_ghost 0 (fun m a' w' => ∃ (k : Nat) (p : Nat × Nat) (u6 u7 u8 u9 u10 u11 u12 u13 u14 u15 u16 u17 u18 u19 u20 : Value), m = k ∧ turnB k p = some r ∧ w' = w ∧ (k : Int) ≤ 4 ∧
      a' = ⟨#[.complex .f64 p.1 p.2, .int .i64 d, undef, undef, .complex .f64 0 0, .int .i64 (k : Int), u6, u7, u8, u9, u10, u11, u12, u13, u14, u15, u16, u17, u18, u19, u20], []⟩) rfl ?_ ?_
  · intro J hJ hpass
    go_wp2_with fail
    refine (right_any a b _ HA.out HB.out).mono ?_
    rintro e w' ⟨rfl, rfl⟩
    cases hx : rightB a b with
    | true =>
      have hp := HP.out
      rw [hx, if_pos rfl] at hp
      have X := hide hp
      clear hp hx
      go_wp2_with fail
      go_step3
      go_step
      go_step
      have HH := H.out
      rw [X.out] at HH
      exact hpass _ _ _ ⟨left, (a, b), _, _, _, _, _, _, _, _, _, _, _, _, _, _, _, rfl, HH, rfl, by omega, rfl⟩
    | false =>
      have hp := HP.out
      rw [hx, if_neg (by simp)] at hp
      have X := hide hp
      clear hp hx
      go_wp2_with fail
      go_step3
      go_step
      go_step
      have HH := H.out
      rw [X.out] at HH
      exact hpass _ _ _ ⟨left, (0, 0), _, _, _, _, _, _, _, _, _, _, _, _, _, _, _, rfl, HH, rfl, by omega, rfl⟩
  · rintro m a' w' ⟨k, p, u6, u7, u8, u9, u10, u11, u12, u13, u14, u15, u16, u17, u18, u19, u20, rfl, ht, rfl, h4, rfl⟩ J hJ
    cases m with
    | zero =>
      have e1 := fun (W : World) => run_complex_sum (P := Try.prog) W .add (.inl rfl) 28 .f64 p.1 p.2 0 0 r.1 r.2 ht
      clear ht HA HB HP H hJ
      go_wp2_with fail
      refine jump_ret ?_
      go_ret
      exact ⟨rfl, rfl⟩
    | succ k =>
      obtain ⟨q, hq, ht2⟩ := Option.bind_eq_some_iff.1 ht
      have e1 := fun (W : World) => run_complex_mul (P := Try.prog) W 28 p.1 p.2 0 4607182418800017408 q.1 q.2 hq
      have k0 : (0 : Int) < ((k + 1 : Nat) : Int) := by omega
      have wk : wrap64 (k : Int) = (k : Int) := IntWalk.wrap64_in _ (by omega)
      have HT := hide ht2
      have H4 := hide h4
      have HJ := hide hJ
      clear ht hq HA HB HP H ht2 h4 hJ
      go_wp2_with fail
      rw [wk]
      go_step3
      refine ⟨rfl, ?_⟩
      exact HJ.out _ _ ⟨k, by omega, k, q, _, _, _, _, _, _, _, _, _, _, _, _, _, _, _, rfl, HT.out, rfl, by have := H4.out; omega, rfl⟩

end Go.Proofs.Yteciaffioiiceab
