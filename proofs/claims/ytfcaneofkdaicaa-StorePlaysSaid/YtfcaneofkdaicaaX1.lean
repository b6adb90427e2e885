/-
  Chapter 16: whether a command may be, in the document: walked.
-/
import Derived.Test.YtfcaneofkdaicaaW1
namespace Go.Proofs.Ytfcaneofkdaicaa
open Go.RowKit Go.Sort Go.Maps

theorem xeq_cmd (x y : Cm) (w : World) : (binOp .eql 44 x.val y.val).run Try.prog w = .ok (.bool (x.o == y.o && (x.c == y.c && (x.s == y.s && (x.k.toList == y.k.toList && x.v.toList == y.v.toList))))) w := by
  have hS : Try.prog.underlying 44 = some (.struct (Try.prog.fieldsOf 44)) := by kernel_rfl
  have hp : Try.prog.stoodInHeld 44 = false := by kernel_rfl
  have u3 := Try.underlying3
  have u9 := Try.underlying9
  have u23 := Try.underlying23
  have a3 := Try.isAgg3
  have a9 := Try.isAgg9
  have a23 := Try.isAgg23
  have z3 := Try.sizeOf3
  have z9 := Try.sizeOf9
  have z23 := Try.sizeOf23
  unfold Cm.val
  rw [run_eql_struct, show (10000 : Nat) = 9999 + 1 from rfl, run_equalIn_agg w 9999 44 _ _ hS hp]
  simp only [Program.fieldsOf, Try.underlying44]
  go_simp
  by_cases h1 : x.o = y.o <;> by_cases h2 : x.c = y.c <;> by_cases h3 : x.s = y.s <;> by_cases h4 : (x.k.toList == y.k.toList) = true <;> by_cases h5 : (x.v.toList == y.v.toList) = true <;> simp_all

set_option maxHeartbeats 1000000 in
theorem xright_zero (w : World) : Calls Try.prog 28 #[Cm.zero.val] w fun e w' => e = .returned (.bool true) ∧ Gr w w' := by
  have hq := fun (W : World) => xeq_cmd Cm.zero Cm.zero W
  unfold Cm.val Cm.zero at hq ⊢
  simp only [beq_self_eq_true, Bool.and_self] at hq
  go_enter Try.func28, Try.ntmps28
  go_wp2_with fail
  go_ret
  exact ⟨rfl, (Gr.refl w).alloc _⟩

theorem xzero_not {x : Cm} (h : zeroB x = false) (W : World) : (binOp .eql 44 x.val Cm.zero.val).run Try.prog W = .ok (.bool false) W := by
  rw [xeq_cmd]
  have : (x.o == Cm.zero.o && (x.c == Cm.zero.c && (x.s == Cm.zero.s && (x.k.toList == Cm.zero.k.toList && x.v.toList == Cm.zero.v.toList)))) = zeroB x := by
    unfold zeroB
    have hz : Cm.zero.k.toList = [] := toList_nil.2 rfl
    have hz2 : Cm.zero.v.toList = [] := toList_nil.2 rfl
    rw [hz, hz2, Bool.eq_iff_iff]
    simp only [Bool.and_eq_true, beq_iff_eq, decide_eq_true_eq, toList_nil]
    rfl
  rw [this, h]

set_option maxHeartbeats 4000000 in
theorem xright_not (o c s : Int) (k v : ByteArray) (w : World) (r : Bool) (hr : rightC ⟨o, c, s, k, v⟩ = r) (h : zeroB ⟨o, c, s, k, v⟩ = false) :
    Calls Try.prog 28 #[.agg #[.int .i64 o, .int .i64 c, .int .u32 s, .string k, .string v]] w fun e w' => e = .returned (.bool r) ∧ Gr w w' := by
  have hq := fun (W : World) => xzero_not h W
  unfold Cm.val Cm.zero at hq
  simp only at hq
  unfold rightC at hr
  rw [h, Bool.false_or] at hr
  unfold okC at hr
  simp only at hr
  clear h
  have hK : k.toList = [] ↔ k.size = 0 := toList_nil
  have hV : v.toList = [] ↔ v.size = 0 := toList_nil
  rcases Int.lt_or_le 0 o with a1 | a1
  rotate_left
  · have a1' : ¬ 1 ≤ o := by omega
    obtain rfl : r = false := by rw [← hr]; first | exact decide_eq_false (by omega) | exact decide_eq_true (by omega)
    clear hr hK hV
    go_enter Try.func28, Try.ntmps28
    go_wp2_with fail
    go_ret
    exact ⟨rfl, (Gr.refl w).alloc _⟩
  have a1' : 1 ≤ o := by omega
  rcases Int.lt_or_le o 4 with a2 | a2
  rotate_left
  · have a2' : ¬ o ≤ 3 := by omega
    obtain rfl : r = false := by rw [← hr]; first | exact decide_eq_false (by omega) | exact decide_eq_true (by omega)
    clear hr hK hV
    go_enter Try.func28, Try.ntmps28
    go_wp2_with fail
    go_ret
    exact ⟨rfl, (Gr.refl w).alloc _⟩
  have a2' : o ≤ 3 := by omega
  rcases Int.lt_or_le 0 c with a3 | a3
  rotate_left
  · skip
    obtain rfl : r = false := by rw [← hr]; first | exact decide_eq_false (by omega) | exact decide_eq_true (by omega)
    have a3' : ¬ 1 ≤ c := by omega
    clear hr hK hV
    go_enter Try.func28, Try.ntmps28
    go_wp2_with fail
    go_ret
    exact ⟨rfl, (Gr.refl w).alloc _⟩
  have a3' : 1 ≤ c := by omega
  rcases Int.lt_or_le c 65 with a4 | a4
  rotate_left
  · skip
    obtain rfl : r = false := by rw [← hr]; first | exact decide_eq_false (by omega) | exact decide_eq_true (by omega)
    have a4' : ¬ c ≤ 64 := by omega
    clear hr hK hV
    go_enter Try.func28, Try.ntmps28
    go_wp2_with fail
    go_ret
    exact ⟨rfl, (Gr.refl w).alloc _⟩
  have a4' : c ≤ 64 := by omega
  rcases Int.lt_or_le 0 s with a5 | a5
  rotate_left
  · skip
    obtain rfl : r = false := by rw [← hr]; first | exact decide_eq_false (by omega) | exact decide_eq_true (by omega)
    have a5' : ¬ 1 ≤ s := by omega
    clear hr hK hV
    go_enter Try.func28, Try.ntmps28
    go_wp2_with fail
    go_ret
    exact ⟨rfl, (Gr.refl w).alloc _⟩
  have a5' : 1 ≤ s := by omega
  rcases Nat.lt_or_ge 0 k.size with a6 | a6
  rotate_left
  · skip
    obtain rfl : r = false := by rw [← hr]; first | exact decide_eq_false (by omega) | exact decide_eq_true (by omega)
    have a6' : ¬ (1 : Int) ≤ k.size := by omega
    clear a6
    clear hr hK hV
    go_enter Try.func28, Try.ntmps28
    go_wp2_with fail
    go_ret
    exact ⟨rfl, (Gr.refl w).alloc _⟩
  have a6' : (1 : Int) ≤ k.size := by omega
  rcases Nat.lt_or_ge k.size 17 with a7 | a7
  rotate_left
  · skip
    obtain rfl : r = false := by rw [← hr]; first | exact decide_eq_false (by omega) | exact decide_eq_true (by omega)
    have a7' : ¬ (k.size : Int) ≤ 16 := by omega
    clear hr hK hV
    go_enter Try.func28, Try.ntmps28
    go_wp2_with fail
    go_ret
    exact ⟨rfl, (Gr.refl w).alloc _⟩
  have a7' : (k.size : Int) ≤ 16 := by omega
  rcases Nat.lt_or_ge v.size 33 with a8 | a8
  rotate_left
  · skip
    obtain rfl : r = false := by rw [← hr]; first | exact decide_eq_false (by omega) | exact decide_eq_true (by omega)
    have a8' : ¬ (v.size : Int) ≤ 32 := by omega
    clear hr hK hV
    go_enter Try.func28, Try.ntmps28
    go_wp2_with fail
    go_ret
    exact ⟨rfl, (Gr.refl w).alloc _⟩
  have a8' : (v.size : Int) ≤ 32 := by omega
  rcases Int.lt_or_le 1 o with a9 | a9
  · have a9' : (o == 1) = false := beq_eq_false_iff_ne.2 (by omega)
    rcases Nat.lt_or_ge 0 v.size with b1 | b1
    · obtain rfl : r = false := by rw [← hr]; first | exact decide_eq_false (by omega) | exact decide_eq_true (by omega)
      have v0 : ¬ v.toList = [] := fun e => by have := hV.1 e; omega
      have v1 : v.toList.isEmpty = false := by simpa using v0
      clear hr hK hV
      go_enter Try.func28, Try.ntmps28
      go_wp2_with fail
      go_ret
      exact ⟨rfl, (Gr.refl w).alloc _⟩
    · obtain rfl : r = true := by rw [← hr]; first | exact decide_eq_false (by omega) | exact decide_eq_true (by omega)
      have v0 : v.toList = [] := hV.2 (by omega)
      have v1 : v.toList.isEmpty = true := by rw [v0]; rfl
      clear b1
      clear hr hK hV
      go_enter Try.func28, Try.ntmps28
      go_wp2_with fail
      go_ret
      exact ⟨rfl, (Gr.refl w).alloc _⟩
  · obtain rfl : o = 1 := by omega
    obtain rfl : r = true := by rw [← hr]; first | exact decide_eq_false (by omega) | exact decide_eq_true (by omega)
    clear hr hK hV
    go_enter Try.func28, Try.ntmps28
    go_wp2_with fail
    go_ret
    exact ⟨rfl, (Gr.refl w).alloc _⟩

/-- Right in the document: tells whether a command may be. -/
theorem xright_any (x : Cm) (w : World) (r : Bool) (hr : rightC x = r) : Calls Try.prog 28 #[x.val] w fun e w' => e = .returned (.bool r) ∧ Gr w w' := by
  cases h : zeroB x
  · exact xright_not x.o x.c x.s x.k x.v w r hr h
  · have hz : x = Cm.zero := by
      unfold zeroB at h
      obtain ⟨h1, h2, h3, h4, h5⟩ := of_decide_eq_true h
      obtain ⟨o, c, s, k, v⟩ := x
      simp only at h1 h2 h3 h4 h5
      rw [h1, h2, h3, bytes_nil.2 h4, bytes_nil.2 h5]
      rfl
    subst hz
    obtain rfl : r = true := by rw [← hr]; unfold rightC; rw [h]; rfl
    exact xright_zero w

end Go.Proofs.Ytfcaneofkdaicaa
