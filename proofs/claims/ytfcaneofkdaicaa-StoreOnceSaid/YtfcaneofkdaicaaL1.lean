/-
  Chapter 16: StoreOnce: walked.
-/
import Derived.Test.YtfcaneofkdaicaaW16
namespace Go.Proofs.Ytfcaneofkdaicaa
open Go.RowKit Go.Sort Go.Maps Go.Shelf

set_option maxRecDepth 100000 in
set_option maxHeartbeats 8000000 in
theorem once_law (A : Option Addr) (n c : Nat) (w : World) (hW : Wishes w A n) (hn : n ≤ 9223372036854775807) :
    Calls Try.prog 4 #[.slice A n c] w fun e w' => e = .returned (.bool true) ∧ Below w.heap.size w w' := by
  have HW := hide hW
  clear hW
  go_enter Try.func4, Try.ntmps4
  go_wp2_with fail
  refine (examples_any w).mono ?_
  rintro e w1 ⟨rfl, hb1⟩
  have B1 := hide hb1
  clear hb1
  go_wp2_with fail
  refine (new_sk w w1 B1.out).mono ?_
  rintro e w2 ⟨F, B, bv, bl, bd, rfl, h2⟩
  have H2 := hide h2
  clear h2
  go_wp2_with fail
  go_loopg [5] (31) (fun q u5 wr => ∃ (i : Nat) (F : List Nat) (acc : List Cm), u5 = .int .i64 (i : Int) ∧ i ≤ 30 ∧ i ≤ n ∧ q = 31 - i ∧ Hid (acc.length ≤ i) ∧ Hid (SK w wr F B bv bl bd acc []))
  case atStart => exact ⟨0, F, [], rfl, by omega, by omega, by omega, Nat.le_refl _, H2.out⟩
  case round =>
    obtain ⟨i, F, acc, rfl, hi, hin, rfl, LA, HS⟩ := hrel
    by_cases hlt : i < n
    · have i1 : (i : Int) < n := by omega
      by_cases h30 : i < 30
      · have i2 : (i : Int) < 30 := by omega
        have i0 : (0 : Int) ≤ i := by omega
        obtain ⟨ab, ao, rfl, hab, o, cc, s, k, v, own, d0, d1, d2, d3, d4, d5, hf⟩ := HW.out i hlt
        have bel := HS.out.ss.bel
        have e0 := (bel.cell (p := ⟨ab, ao + i * 6, none⟩) hab).trans d0
        have e1 := (bel.cell (p := ⟨ab, ao + i * 6 + 1, none⟩) hab).trans d1
        have e2 := (bel.cell (p := ⟨ab, ao + i * 6 + 2, none⟩) hab).trans d2
        have e3 := (bel.cell (p := ⟨ab, ao + i * 6 + 3, none⟩) hab).trans d3
        have e4 := (bel.cell (p := ⟨ab, ao + i * 6 + 4, none⟩) hab).trans d4
        have e5 := (bel.cell (p := ⟨ab, ao + i * 6 + 5, none⟩) hab).trans d5
        have hlt2 : ab < wr.heap.size := by have := bel.size; omega
        obtain ⟨y, hy⟩ : ∃ y, y = wishC o cc s v := ⟨_, rfl⟩
        have WA := hide (fun W => wish_any o cc s k v W hf.s y hy.symm)
        have WO := hide (wish_ok o cc s v hf.s.1)
        rw [← hy] at WO
        clear d0 d1 d2 d3 d4 d5 bel hf hy
        go_wp2_with fail
        refine (WA.out _).mono ?_
        rintro e w3 ⟨rfl, g3⟩
        have H3 := hide (((HS.out.gr ((Gr.refl wr).alloc _)).below g3).box 33 #[.int .i64 y.o, .int .i64 y.c, .int .u32 y.s, .string y.k, .string y.v])
        clear g3 e0 e1 e2 e3 e4 e5
        rcases WO.out with hz | ⟨hok, hne, hkey, hfit⟩
        · subst hz
          unfold Cm.zero at H3 ⊢
          go_wp2_with fail
          go_roundg (31 - (i + 1))
          case measure => omega
          case rel => exact ⟨i + 1, F, acc, by go_num, by omega, by omega, rfl, Nat.le_succ_of_le LA.out, H3.out.drop (by simp)⟩
        · have hne2 : (y.o == 0) = false := beq_eq_false_iff_ne.2 hne
          obtain ⟨kf, kv, hk1, hk2⟩ := known_after (acc := acc) hok
          obtain ⟨a1, a2, a3⟩ := again_not (acc := acc) hok
          have hlen' := applyC_len acc y
          obtain ⟨acc', hacc⟩ : ∃ acc', acc' = applyC acc y := ⟨_, rfl⟩
          rw [← hacc] at hk1 a1 a2 a3 hlen'
          have hlen' : acc'.length ≤ i + 1 := by have := LA.out; omega
          cases hnw : newC acc y with
          | true =>
            have AP := hide (apply_at H3.out y.o y.c y.s y.k y.v hfit (by have := LA.out; omega) (y := ⟨y.c, y.s, kf, kv⟩) (r := true) (hk2 hnw) hnw hacc.symm)
            have AG := hide (fun (W : World) F ks (h : SK w W F B bv bl bd acc' ks) => apply_at h y.o y.c y.s y.k y.v hfit (by omega) (y := Rp.zero) (r := false) (acc' := acc') a1 a2 a3)
            have KN := hide (fun (W : World) F (h : SS w W F B bv bl bd acc') => known_at h y.c y.s hfit.c hfit.s (y := ⟨y.c, y.s, kf, kv⟩) (r := 0) (by rw [hk1]; rfl) (by rw [hk1]; rfl))
            have TX := hide (fun (W : World) F (h : SS w W F B bv bl bd acc') => text_any h (by omega))
            have MN := hide (fun (W : World) F (h : SS w W F B bv bl bd acc') => many_any h)
            have qn := fun (W : World) => neq_rep ⟨y.c, y.s, kf, kv⟩ ⟨y.c, y.s, kf, kv⟩ W
            unfold Rp.val at qn
            simp only [beq_self_eq_true, Bool.and_self, Bool.not_true] at qn
            unfold Rp.zero at AP AG
            obtain ⟨tx, htx⟩ : ∃ tx : ByteArray, tx = ⟨(textOf acc').toArray⟩ := ⟨_, rfl⟩
            rw [← htx] at TX
            obtain ⟨mn, hmn⟩ : ∃ mn : Int, mn = (acc'.length : Int) := ⟨_, rfl⟩
            rw [← hmn] at MN
            have HL := hide hlen'
            clear hk1 hk2 a1 a2 a3 hnw hacc hfit hok hne hkey htx hmn hlen' WO WA
            go_wp2_with fail
            refine AP.out.mono ?_
            rintro e w4 ⟨rfl, F4, h4⟩
            have H4 := hide (h4.box 38 #[.int .i64 y.c, .int .u32 y.s, .bool kf, .string kv])
            clear h4
            go_wp2_with fail
            refine (TX.out _ _ H4.out.ss).mono ?_
            rintro e w5 ⟨rfl, b5⟩
            have h5 := H4.out.below b5
            have H5 := hide h5
            obtain ⟨x0, x1, x2, x3, x4⟩ := h5.cells5 (by simp : (w3.heap.size, 33, #[.int .i64 y.o, .int .i64 y.c, .int .u32 y.s, .string y.k, .string y.v]) ∈ _)
            clear b5 h5
            go_wp2_with fail
            refine (MN.out _ _ H5.out.ss).mono ?_
            rintro e w6 ⟨rfl, rfl⟩
            go_wp2_with fail
            refine (AG.out _ _ _ H5.out).mono ?_
            rintro e w6 ⟨rfl, F6, h6⟩
            clear x0 x1 x2 x3 x4
            have H6 := hide (h6.box 38 #[.int .i64 0, .int .u32 0, .bool false, .string ⟨#[]⟩])
            obtain ⟨x0, x1, x2, x3, x4⟩ := h6.cells5 (by simp : (w3.heap.size, 33, #[.int .i64 y.o, .int .i64 y.c, .int .u32 y.s, .string y.k, .string y.v]) ∈ _)
            have l1 := (h6.blk (by simp : (w3.heap.size, 33, #[.int .i64 y.o, .int .i64 y.c, .int .u32 y.s, .string y.k, .string y.v]) ∈ _)).lt
            clear h6
            go_wp2_with fail
            refine (KN.out _ _ H6.out.ss).mono ?_
            rintro e w7 ⟨rfl, g7⟩
            clear x0 x1 x2 x3 x4 l1
            have H7 := hide ((H6.out.gr g7).box 38 #[.int .i64 y.c, .int .u32 y.s, .bool kf, .string kv])
            clear g7
            go_wp2_with fail
            refine (TX.out _ _ H7.out.ss).mono ?_
            rintro e w8 ⟨rfl, b8⟩
            have h8 := H7.out.below b8
            have H8 := hide h8
            obtain ⟨x0, x1, x2, x3, x4⟩ := h8.cells5 (by simp : (w3.heap.size, 33, #[.int .i64 y.o, .int .i64 y.c, .int .u32 y.s, .string y.k, .string y.v]) ∈ _)
            obtain ⟨z0, z1, z2, z3⟩ := h8.cells4 (by simp : (w7.heap.size, 38, #[.int .i64 y.c, .int .u32 y.s, .bool kf, .string kv]) ∈ _)
            obtain ⟨t0, t1, t2, t3⟩ := h8.cells4 (by simp : (w4.heap.size, 38, #[.int .i64 y.c, .int .u32 y.s, .bool kf, .string kv]) ∈ _)
            clear b8 h8
            go_wp2_with fail
            refine (MN.out _ _ H8.out.ss).mono ?_
            rintro e w9 ⟨rfl, rfl⟩
            go_wp2_with fail
            clear x0 x1 x2 x3 x4 z0 z1 z2 z3 t0 t1 t2 t3
            go_roundg (31 - (i + 1))
            case measure => omega
            case rel => exact ⟨i + 1, F6, acc', by go_num, by omega, by omega, rfl, HL.out, H8.out.drop (by simp)⟩
          | false =>
            have AP := hide (apply_at H3.out y.o y.c y.s y.k y.v hfit (by have := LA.out; omega) (y := Rp.zero) (r := false) (by unfold told; rw [hnw]; rfl) hnw hacc.symm)
            have AG := hide (fun (W : World) F ks (h : SK w W F B bv bl bd acc' ks) => apply_at h y.o y.c y.s y.k y.v hfit (by omega) (y := Rp.zero) (r := false) (acc' := acc') a1 a2 a3)
            have KN := hide (fun (W : World) F (h : SS w W F B bv bl bd acc') => known_at h y.c y.s hfit.c hfit.s (y := ⟨y.c, y.s, kf, kv⟩) (r := 0) (by rw [hk1]; rfl) (by rw [hk1]; rfl))
            have TX := hide (fun (W : World) F (h : SS w W F B bv bl bd acc') => text_any h (by omega))
            have MN := hide (fun (W : World) F (h : SS w W F B bv bl bd acc') => many_any h)
            unfold Rp.zero at AP AG
            obtain ⟨tx, htx⟩ : ∃ tx : ByteArray, tx = ⟨(textOf acc').toArray⟩ := ⟨_, rfl⟩
            rw [← htx] at TX
            obtain ⟨mn, hmn⟩ : ∃ mn : Int, mn = (acc'.length : Int) := ⟨_, rfl⟩
            rw [← hmn] at MN
            have HL := hide hlen'
            clear hk1 hk2 a1 a2 a3 hnw hacc hfit hok hne hkey htx hmn hlen' WO WA
            go_wp2_with fail
            refine AP.out.mono ?_
            rintro e w4 ⟨rfl, F4, h4⟩
            have H4 := hide (h4.box 38 #[.int .i64 0, .int .u32 0, .bool false, .string ⟨#[]⟩])
            clear h4
            go_wp2_with fail
            refine (TX.out _ _ H4.out.ss).mono ?_
            rintro e w5 ⟨rfl, b5⟩
            have h5 := H4.out.below b5
            have H5 := hide h5
            obtain ⟨x0, x1, x2, x3, x4⟩ := h5.cells5 (by simp : (w3.heap.size, 33, #[.int .i64 y.o, .int .i64 y.c, .int .u32 y.s, .string y.k, .string y.v]) ∈ _)
            clear b5 h5
            go_wp2_with fail
            refine (MN.out _ _ H5.out.ss).mono ?_
            rintro e w6 ⟨rfl, rfl⟩
            go_wp2_with fail
            refine (AG.out _ _ _ H5.out).mono ?_
            rintro e w6 ⟨rfl, F6, h6⟩
            clear x0 x1 x2 x3 x4
            have H6 := hide (h6.box 38 #[.int .i64 0, .int .u32 0, .bool false, .string ⟨#[]⟩])
            obtain ⟨x0, x1, x2, x3, x4⟩ := h6.cells5 (by simp : (w3.heap.size, 33, #[.int .i64 y.o, .int .i64 y.c, .int .u32 y.s, .string y.k, .string y.v]) ∈ _)
            have l1 := (h6.blk (by simp : (w3.heap.size, 33, #[.int .i64 y.o, .int .i64 y.c, .int .u32 y.s, .string y.k, .string y.v]) ∈ _)).lt
            clear h6
            go_wp2_with fail
            refine (KN.out _ _ H6.out.ss).mono ?_
            rintro e w7 ⟨rfl, g7⟩
            clear x0 x1 x2 x3 x4 l1
            have H7 := hide ((H6.out.gr g7).box 38 #[.int .i64 y.c, .int .u32 y.s, .bool kf, .string kv])
            clear g7
            go_wp2_with fail
            refine (TX.out _ _ H7.out.ss).mono ?_
            rintro e w8 ⟨rfl, b8⟩
            have h8 := H7.out.below b8
            have H8 := hide h8
            obtain ⟨x0, x1, x2, x3, x4⟩ := h8.cells5 (by simp : (w3.heap.size, 33, #[.int .i64 y.o, .int .i64 y.c, .int .u32 y.s, .string y.k, .string y.v]) ∈ _)
            obtain ⟨z0, z1, z2, z3⟩ := h8.cells4 (by simp : (w7.heap.size, 38, #[.int .i64 y.c, .int .u32 y.s, .bool kf, .string kv]) ∈ _)
            obtain ⟨t0, t1, t2, t3⟩ := h8.cells4 (by simp : (w4.heap.size, 38, #[.int .i64 0, .int .u32 0, .bool false, .string ⟨#[]⟩]) ∈ _)
            clear b8 h8
            go_wp2_with fail
            refine (MN.out _ _ H8.out.ss).mono ?_
            rintro e w9 ⟨rfl, rfl⟩
            go_wp2_with fail
            clear x0 x1 x2 x3 x4 z0 z1 z2 z3 t0 t1 t2 t3
            go_roundg (31 - (i + 1))
            case measure => omega
            case rel => exact ⟨i + 1, F6, acc', by go_num, by omega, by omega, rfl, HL.out, H8.out.drop (by simp)⟩
      · have i2 : ¬ (i : Int) < 30 := by omega
        go_wp2_with fail
        go_ret
        exact ⟨rfl, HS.out.ss.bel⟩
    · have i1 : ¬ (i : Int) < n := by omega
      go_wp2_with fail
      go_ret
      exact ⟨rfl, HS.out.ss.bel⟩

end Go.Proofs.Ytfcaneofkdaicaa
