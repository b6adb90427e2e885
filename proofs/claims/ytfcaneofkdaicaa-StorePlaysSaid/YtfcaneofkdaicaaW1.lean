/-
  Chapter 16: whether a command may be: walked.
-/
import Derived.Test.YtfcaneofkdaicaaA
namespace Go.Proofs.Ytfcaneofkdaicaa
open Go.RowKit Go.Sort Go.Maps

set_option maxHeartbeats 1000000 in
theorem right_zero (w : World) : Calls Try.prog 27 #[Cm.zero.val] w fun e w' => e = .returned (.bool true) ∧ Gr w w' := by
  have hq := fun (W : World) => eq_cmd Cm.zero Cm.zero W
  unfold Cm.val Cm.zero at hq ⊢
  simp only [beq_self_eq_true, Bool.and_self] at hq
  go_enter Try.func27, Try.ntmps27
  go_wp2_with fail
  go_ret
  exact ⟨rfl, (Gr.refl w).alloc _⟩

theorem zero_not {x : Cm} (h : zeroB x = false) (W : World) : (binOp .eql 33 x.val Cm.zero.val).run Try.prog W = .ok (.bool false) W := by
  rw [eq_cmd]
  have : (x.o == Cm.zero.o && (x.c == Cm.zero.c && (x.s == Cm.zero.s && (x.k.toList == Cm.zero.k.toList && x.v.toList == Cm.zero.v.toList)))) = zeroB x := by
    unfold zeroB
    have hz : Cm.zero.k.toList = [] := toList_nil.2 rfl
    have hz2 : Cm.zero.v.toList = [] := toList_nil.2 rfl
    rw [hz, hz2, Bool.eq_iff_iff]
    simp only [Bool.and_eq_true, beq_iff_eq, decide_eq_true_eq, toList_nil]
    rfl
  rw [this, h]

set_option maxHeartbeats 4000000 in
theorem right_not (o c s : Int) (k v : ByteArray) (w : World) (r : Bool) (hr : rightC ⟨o, c, s, k, v⟩ = r) (h : zeroB ⟨o, c, s, k, v⟩ = false) :
    Calls Try.prog 27 #[.agg #[.int .i64 o, .int .i64 c, .int .u32 s, .string k, .string v]] w fun e w' => e = .returned (.bool r) ∧ Gr w w' := by
  have hq := fun (W : World) => zero_not h W
  unfold Cm.val Cm.zero at hq
  simp only at hq
  unfold rightC at hr
  rw [h, Bool.false_or] at hr
  unfold okC at hr
  simp only at hr
  clear h
  have hK : k.toList = [] ↔ k.size = 0 := toList_nil
  have hV : v.toList = [] ↔ v.size = 0 := toList_nil
  rcases Int.lt_or_le 0 o with a1 | a1
  rotate_left
  · skip
    obtain rfl : r = false := by rw [← hr]; first | exact decide_eq_false (by omega) | exact decide_eq_true (by omega)
    clear hr hK hV
    go_enter Try.func27, Try.ntmps27
    go_wp2_with fail
    go_ret
    exact ⟨rfl, (Gr.refl w).alloc _⟩
  have a1' : ¬ o ≤ 0 := by omega
  rcases Int.lt_or_le o 4 with a2 | a2
  rotate_left
  · skip
    obtain rfl : r = false := by rw [← hr]; first | exact decide_eq_false (by omega) | exact decide_eq_true (by omega)
    clear hr hK hV
    go_enter Try.func27, Try.ntmps27
    go_wp2_with fail
    go_ret
    exact ⟨rfl, (Gr.refl w).alloc _⟩
  have a2' : ¬ 4 ≤ o := by omega
  rcases Int.lt_or_le 0 c with a3 | a3
  rotate_left
  · skip
    obtain rfl : r = false := by rw [← hr]; first | exact decide_eq_false (by omega) | exact decide_eq_true (by omega)
    have a3' : c < 1 := by omega
    clear hr hK hV
    go_enter Try.func27, Try.ntmps27
    go_wp2_with fail
    go_ret
    exact ⟨rfl, (Gr.refl w).alloc _⟩
  have a3' : ¬ c < 1 := by omega
  rcases Int.lt_or_le c 65 with a4 | a4
  rotate_left
  · skip
    obtain rfl : r = false := by rw [← hr]; first | exact decide_eq_false (by omega) | exact decide_eq_true (by omega)
    have a4' : 64 < c := by omega
    clear hr hK hV
    go_enter Try.func27, Try.ntmps27
    go_wp2_with fail
    go_ret
    exact ⟨rfl, (Gr.refl w).alloc _⟩
  have a4' : ¬ 64 < c := by omega
  rcases Int.lt_or_le 0 s with a5 | a5
  rotate_left
  · skip
    obtain rfl : r = false := by rw [← hr]; first | exact decide_eq_false (by omega) | exact decide_eq_true (by omega)
    have a5' : s < 1 := by omega
    clear hr hK hV
    go_enter Try.func27, Try.ntmps27
    go_wp2_with fail
    go_ret
    exact ⟨rfl, (Gr.refl w).alloc _⟩
  have a5' : ¬ s < 1 := by omega
  rcases Nat.lt_or_ge 0 k.size with a6 | a6
  rotate_left
  · skip
    obtain rfl : r = false := by rw [← hr]; first | exact decide_eq_false (by omega) | exact decide_eq_true (by omega)
    have k0 : k.toList = [] := hK.2 (by omega)
    have k1 : k.toList.isEmpty = true := by rw [k0]; rfl
    clear a6
    clear hr hK hV
    go_enter Try.func27, Try.ntmps27
    go_wp2_with fail
    go_ret
    exact ⟨rfl, (Gr.refl w).alloc _⟩
  have k0 : ¬ k.toList = [] := fun e => by have := hK.1 e; omega
  have k1 : k.toList.isEmpty = false := by simpa using k0
  rcases Nat.lt_or_ge k.size 17 with a7 | a7
  rotate_left
  · skip
    obtain rfl : r = false := by rw [← hr]; first | exact decide_eq_false (by omega) | exact decide_eq_true (by omega)
    have a7' : (16 : Int) < k.size := by omega
    clear hr hK hV
    go_enter Try.func27, Try.ntmps27
    go_wp2_with fail
    go_ret
    exact ⟨rfl, (Gr.refl w).alloc _⟩
  have a7' : ¬ (16 : Int) < k.size := by omega
  rcases Nat.lt_or_ge v.size 33 with a8 | a8
  rotate_left
  · skip
    obtain rfl : r = false := by rw [← hr]; first | exact decide_eq_false (by omega) | exact decide_eq_true (by omega)
    have a8' : (32 : Int) < v.size := by omega
    clear hr hK hV
    go_enter Try.func27, Try.ntmps27
    go_wp2_with fail
    go_ret
    exact ⟨rfl, (Gr.refl w).alloc _⟩
  have a8' : ¬ (32 : Int) < v.size := by omega
  rcases Int.lt_or_le 1 o with a9 | a9
  · have a9' : (o == 1) = false := beq_eq_false_iff_ne.2 (by omega)
    rcases Nat.lt_or_ge 0 v.size with b1 | b1
    · obtain rfl : r = false := by rw [← hr]; first | exact decide_eq_false (by omega) | exact decide_eq_true (by omega)
      have v0 : ¬ v.toList = [] := fun e => by have := hV.1 e; omega
      have v1 : v.toList.isEmpty = false := by simpa using v0
      clear hr hK hV
      go_enter Try.func27, Try.ntmps27
      go_wp2_with fail
      go_ret
      exact ⟨rfl, (Gr.refl w).alloc _⟩
    · obtain rfl : r = true := by rw [← hr]; first | exact decide_eq_false (by omega) | exact decide_eq_true (by omega)
      have v0 : v.toList = [] := hV.2 (by omega)
      have v1 : v.toList.isEmpty = true := by rw [v0]; rfl
      clear b1
      clear hr hK hV
      go_enter Try.func27, Try.ntmps27
      go_wp2_with fail
      go_ret
      exact ⟨rfl, (Gr.refl w).alloc _⟩
  · obtain rfl : o = 1 := by omega
    obtain rfl : r = true := by rw [← hr]; first | exact decide_eq_false (by omega) | exact decide_eq_true (by omega)
    clear hr hK hV
    go_enter Try.func27, Try.ntmps27
    go_wp2_with fail
    go_ret
    exact ⟨rfl, (Gr.refl w).alloc _⟩

/-- Right: tells whether a command may be. -/
theorem right_any (x : Cm) (w : World) (r : Bool) (hr : rightC x = r) : Calls Try.prog 27 #[x.val] w fun e w' => e = .returned (.bool r) ∧ Gr w w' := by
  cases h : zeroB x
  · exact right_not x.o x.c x.s x.k x.v w r hr h
  · have hz : x = Cm.zero := by
      unfold zeroB at h
      obtain ⟨h1, h2, h3, h4, h5⟩ := of_decide_eq_true h
      obtain ⟨o, c, s, k, v⟩ := x
      simp only at h1 h2 h3 h4 h5
      rw [h1, h2, h3, bytes_nil.2 h4, bytes_nil.2 h5]
      rfl
    subst hz
    obtain rfl : r = true := by rw [← hr]; unfold rightC; rw [h]; rfl
    exact right_zero w

end Go.Proofs.Ytfcaneofkdaicaa
