/-
  Chapter 16: the examples: walked.
-/
import Derived.Test.YtfcaneofkdaicaaW14
namespace Go.Proofs.Ytfcaneofkdaicaa
open Go.RowKit Go.Sort Go.Maps Go.Shelf

theorem eq_rep (x y : Rp) (w : World) : (binOp .eql 38 x.val y.val).run Try.prog w = .ok (.bool (x.c == y.c && (x.s == y.s && (x.f == y.f && x.v.toList == y.v.toList)))) w := by
  have hS : Try.prog.underlying 38 = some (.struct (Try.prog.fieldsOf 38)) := by kernel_rfl
  have hp : Try.prog.stoodInHeld 38 = false := by kernel_rfl
  have u3 := Try.underlying3
  have u9 := Try.underlying9
  have u23 := Try.underlying23
  have u4 := Try.underlying4
  have a3 := Try.isAgg3
  have a9 := Try.isAgg9
  have a23 := Try.isAgg23
  have a4 := Try.isAgg4
  have z3 := Try.sizeOf3
  have z9 := Try.sizeOf9
  have z23 := Try.sizeOf23
  have z4 := Try.sizeOf4
  unfold Rp.val
  rw [run_eql_struct, show (10000 : Nat) = 9999 + 1 from rfl, run_equalIn_agg w 9999 38 _ _ hS hp]
  simp only [Program.fieldsOf, Try.underlying38]
  go_simp
  by_cases h1 : x.c = y.c <;> by_cases h2 : x.s = y.s <;> by_cases h3 : x.f = y.f <;> by_cases h4 : (x.v.toList == y.v.toList) = true <;> simp_all

theorem new_sk (w0 w : World) (hw : Below w0.heap.size w0 w) : Calls Try.prog 10 #[] w fun e w' =>
    ∃ F B bv bl bd, e = .returned (.pointer (some ⟨B, 0, none⟩)) ∧ SK w0 w' F B bv bl bd [] [] :=
  (new_any w0 w hw).mono fun e w' ⟨F, B, bv, bl, bd, he, hs, _⟩ => ⟨F, B, bv, bl, bd, he, hs, by simp⟩

set_option maxRecDepth 100000 in
set_option maxHeartbeats 8000000 in
theorem examples_any (w : World) : Calls Try.prog 9 #[] w fun e w' => e = .returned (.bool true) ∧ Below w.heap.size w w' := by
  have A1 := hide (fun (W : World) F B bv bl bd ks (h : SK w W F B bv bl bd [] ks) => apply_at h 1 1 1 ⟨#[107]⟩ ⟨#[118]⟩ ex_fit.1 (by simp) ex_facts.1.1 ex_facts.1.2.1 ex_facts.1.2.2)
  have A2 := hide (fun (W : World) F B bv bl bd ks (h : SK w W F B bv bl bd [exC] ks) => apply_at h 1 1 1 ⟨#[107]⟩ ⟨#[118]⟩ ex_fit.1 (by simp) ex_facts.2.1.1 ex_facts.2.1.2.1 ex_facts.2.1.2.2)
  have A3 := hide (fun (W : World) F B bv bl bd ks (h : SK w W F B bv bl bd [exC] ks) => apply_at h 2 2 5 ⟨#[107]⟩ ⟨#[]⟩ ex_fit.2 (by simp) ex_facts.2.2.1 ex_facts.2.2.2.1 ex_facts.2.2.2.2)
  have V1 := hide (fun (W : World) F B bv bl bd (h : SS w W F B bv bl bd [exC, exD]) => value_any h ⟨#[107]⟩ (by simp [ByteArray.size]) ⟨#[118]⟩ true (by rw [ex_known.2.2.1]; rfl) (by rw [ex_known.2.2.1]; rfl))
  have K1 := hide (fun (W : World) F B bv bl bd (h : SS w W F B bv bl bd [exC, exD]) => known_at h 1 1 (by unfold Fits; omega) (by unfold FitsU; omega) (y := ⟨1, 1, false, ⟨#[]⟩⟩) (r := 0) (by rw [ex_known.1]; rfl) (by rw [ex_known.1]; rfl))
  have K2 := hide (fun (W : World) F B bv bl bd (h : SS w W F B bv bl bd [exC, exD]) => known_at h 1 2 (by unfold Fits; omega) (by unfold FitsU; omega) (y := Rp.zero) (r := 5) (by rw [ex_known.2.1]; rfl) (by rw [ex_known.2.1]; rfl))
  unfold Rp.zero at K2 A2
  have L1 := hide (fun (W : World) F B bv bl bd (h : SS w W F B bv bl bd [exC, exD]) => log_any h ⟨#[107]⟩ (by simp [ByteArray.size]) (by simp))
  have M1 := hide (fun (W : World) F B bv bl bd (h : SS w W F B bv bl bd [exC, exD]) => many_any h)
  have T1 := hide (fun (W : World) F B bv bl bd (h : SS w W F B bv bl bd [exC, exD]) => text_any h (by simp))
  rw [ex_text] at T1
  have Y1 := hide (fun (W : World) F B bv bl bd (h : SS w W F B bv bl bd [exC, exD]) => keys_any h (by simp))
  go_enter Try.func9, Try.ntmps9
  go_wp2_with fail
  refine (new_sk w w (Below.refl _ w)).mono ?_
  rintro e w1 ⟨F, B, bv, bl, bd, rfl, h1⟩
  have H1 := hide (h1.box 33 #[.int .i64 1, .int .i64 1, .int .u32 1, .string ⟨#[107]⟩, .string ⟨#[118]⟩])
  clear h1
  go_wp2_with fail
  refine (A1.out _ _ _ _ _ _ _ H1.out).mono ?_
  rintro e w2 ⟨rfl, F2, h2⟩
  have H2 := hide (h2.box 38 #[.int .i64 1, .int .u32 1, .bool false, .string ⟨#[]⟩])
  obtain ⟨x0, x1, x2, x3, x4⟩ := h2.cells5 List.mem_cons_self
  have l1 := (h2.blk List.mem_cons_self).lt
  clear h2
  go_wp2_with fail
  refine (A2.out _ _ _ _ _ _ _ H2.out).mono ?_
  rintro e w3 ⟨rfl, F3, h3⟩
  have H3 := hide (h3.box 38 #[.int .i64 0, .int .u32 0, .bool false, .string ⟨#[]⟩])
  clear h3 x0 x1 x2 x3 x4 l1
  go_wp2_with fail
  refine (A3.out _ _ _ _ _ _ _ H3.out).mono ?_
  rintro e w4 ⟨rfl, F4, h4⟩
  have H4 := hide (h4.box 38 #[.int .i64 2, .int .u32 5, .bool true, .string ⟨#[118]⟩])
  clear h4
  go_wp2_with fail
  refine (V1.out _ _ _ _ _ _ H4.out.ss).mono ?_
  rintro e w5 ⟨rfl, rfl⟩
  go_wp2_with fail
  refine (K1.out _ _ _ _ _ _ H4.out.ss).mono ?_
  rintro e w5 ⟨rfl, g5⟩
  have H5 := hide ((H4.out.gr g5).box 38 #[.int .i64 1, .int .u32 1, .bool false, .string ⟨#[]⟩])
  clear g5
  go_wp2_with fail
  refine (K2.out _ _ _ _ _ _ H5.out.ss).mono ?_
  rintro e w6 ⟨rfl, g6⟩
  have h6 := (H5.out.gr g6).box 38 #[.int .i64 0, .int .u32 0, .bool false, .string ⟨#[]⟩]
  have H6 := hide h6
  obtain ⟨a0, a1, a2, a3⟩ := h6.cells4 (by simp : (w2.heap.size, 38, #[.int .i64 1, .int .u32 1, .bool false, .string ⟨#[]⟩]) ∈ _)
  obtain ⟨b0, b1, b2, b3⟩ := h6.cells4 (by simp : (w4.heap.size, 38, #[.int .i64 2, .int .u32 5, .bool true, .string ⟨#[118]⟩]) ∈ _)
  obtain ⟨d0, d1, d2, d3⟩ := h6.cells4 (by simp : (w5.heap.size, 38, #[.int .i64 1, .int .u32 1, .bool false, .string ⟨#[]⟩]) ∈ _)
  have qr := fun (W : World) => eq_rep ⟨1, 1, false, ⟨#[]⟩⟩ ⟨1, 1, false, ⟨#[]⟩⟩ W
  unfold Rp.val at qr
  simp only [beq_self_eq_true, Bool.and_self] at qr
  clear g6 h6
  go_wp2_with fail
  refine (L1.out _ _ _ _ _ _ H6.out.ss).mono ?_
  rintro e w7 ⟨v7, rfl, o7, b7⟩
  rw [ex_known.2.2.2] at o7
  obtain ⟨A7, c7, rfl, _⟩ := own_slice o7
  have H7 := hide (H6.out.below b7)
  clear o7 b7 a0 a1 a2 a3 b0 b1 b2 b3 d0 d1 d2 d3
  go_wp2_with fail
  refine (M1.out _ _ _ _ _ _ H7.out.ss).mono ?_
  rintro e w8 ⟨rfl, rfl⟩
  go_wp2_with fail
  refine (T1.out _ _ _ _ _ _ H7.out.ss).mono ?_
  rintro e w8 ⟨rfl, b8⟩
  have H8 := hide (H7.out.below b8)
  clear b8
  go_wp2_with fail
  refine (Y1.out _ _ _ _ _ _ H8.out.ss).mono ?_
  rintro e w9 ⟨v9, rfl, o9, b9⟩
  rw [ex_keys] at o9
  obtain ⟨A9, c9, rfl, _⟩ := own_slice o9
  have B9 := hide (H8.out.below b9).ss.bel
  clear o9 b9
  go_wp2_with fail
  go_ret
  exact ⟨rfl, B9.out⟩

end Go.Proofs.Ytfcaneofkdaicaa
