/-
  Chapter 16: StoreWrong: walked.
-/
import Derived.Test.YtfcaneofkdaicaaW16
namespace Go.Proofs.Ytfcaneofkdaicaa
open Go.RowKit Go.Sort Go.Maps Go.Shelf

theorem zero_not_new (acc : List Cm) : told acc Cm.zero = Rp.zero ∧ newC acc Cm.zero = false ∧ applyC acc Cm.zero = acc := by
  have h : newC acc Cm.zero = false := rfl
  refine ⟨?_, h, ?_⟩
  · unfold told; rw [h]; rfl
  · unfold applyC; rw [h]; rfl
theorem wrong_not_new {x : Cm} (acc : List Cm) (hx : okC x = false) : told acc x = Rp.zero ∧ newC acc x = false ∧ applyC acc x = acc := by
  have h : newC acc x = false := by unfold newC; rw [hx, Bool.false_and]
  refine ⟨?_, h, ?_⟩
  · unfold told; rw [h]; rfl
  · unfold applyC; rw [h]; rfl
theorem zero_fit : Cm.zero.Fit := by
  refine ⟨?_, ?_, ?_, ?_, ?_⟩ <;> simp [Cm.zero, Fits, FitsU, ByteArray.size]

set_option maxRecDepth 100000 in
set_option maxHeartbeats 8000000 in
theorem wrong_law (A : Option Addr) (n c : Nat) (x : Cm) (w : World) (hW : Wishes w A n) (hn : n ≤ 9223372036854775807) (hx : x.Fit) :
    Calls Try.prog 7 #[.slice A n c, .agg #[.int .i64 x.o, .int .i64 x.c, .int .u32 x.s, .string x.k, .string x.v]] w fun e w' => e = .returned (.bool true) ∧ Below w.heap.size w w' := by
  have HW := hide hW
  have HX := hide hx
  have R0 := hide (Blk.new w 33 #[.int .i64 x.o, .int .i64 x.c, .int .u32 x.s, .string x.k, .string x.v])
  obtain ⟨rr, hrr⟩ : ∃ rr, rightC x = rr := ⟨_, rfl⟩
  have RC := hide (fun W => right_any x W rr hrr)
  have RR := hide hrr
  unfold Cm.val at RC
  clear hW hx hrr
  go_enter Try.func7, Try.ntmps7
  go_wp2_with fail
  refine (examples_any _).mono ?_
  rintro e w1 ⟨rfl, hb1⟩
  have B1 := hide (((Below.refl _ w).alloc (Nat.le_refl _) (.cells #[.int .i64 x.o, .int .i64 x.c, .int .u32 x.s, .string x.k, .string x.v] 33)).trans (hb1.mono (by simp)))
  have R1 := hide (R0.out.below hb1 R0.out.lt)
  clear hb1
  go_wp2_with fail
  refine (new_keep w w1 B1.out [(w.heap.size, 33, #[.int .i64 x.o, .int .i64 x.c, .int .u32 x.s, .string x.k, .string x.v])] (by intro k hk; rw [List.mem_singleton.1 hk]; exact ⟨R1.out, Nat.le_refl _⟩)).mono ?_
  rintro e w2 ⟨F, B, bv, bl, bd, rfl, h2⟩
  have H2 := hide h2
  clear h2
  go_wp2_with fail
  go_loopg [7] (11) (fun q u wr => ∃ (i : Nat) (F : List Nat) (acc : List Cm), u = .int .i64 (i : Int) ∧ i ≤ 10 ∧ i ≤ n ∧ q = 11 - i ∧ Hid (acc.length ≤ i ∧ ∀ x ∈ acc, few x) ∧ Hid (SK w wr F B bv bl bd acc [(w.heap.size, 33, #[.int .i64 x.o, .int .i64 x.c, .int .u32 x.s, .string x.k, .string x.v])]))
  case atStart => exact ⟨0, F, [], rfl, by omega, by omega, by omega, ⟨Nat.le_refl _, by simp⟩, H2.out⟩
  case round =>
    obtain ⟨i, F, acc, rfl, hi, hin, rfl, LA, HS⟩ := hrel
    by_cases hgo : i < n ∧ i < 10
    · have i1 : (i : Int) < n := by omega
      have i2 : (i : Int) < 10 := by omega
      have i0 : (0 : Int) ≤ i := by omega
      have hlt : i < n := hgo.1
      have h30 : i < 10 := hgo.2
      clear hgo
      obtain ⟨ab, ao, rfl, hab, o, cc, s, k, v, own, d0, d1, d2, d3, d4, d5, hf⟩ := HW.out i hlt
      have bel := HS.out.ss.bel
      have e0 := (bel.cell (p := ⟨ab, ao + i * 6, none⟩) hab).trans d0
      have e1 := (bel.cell (p := ⟨ab, ao + i * 6 + 1, none⟩) hab).trans d1
      have e2 := (bel.cell (p := ⟨ab, ao + i * 6 + 2, none⟩) hab).trans d2
      have e3 := (bel.cell (p := ⟨ab, ao + i * 6 + 3, none⟩) hab).trans d3
      have e4 := (bel.cell (p := ⟨ab, ao + i * 6 + 4, none⟩) hab).trans d4
      have e5 := (bel.cell (p := ⟨ab, ao + i * 6 + 5, none⟩) hab).trans d5
      have hlt2 : ab < wr.heap.size := by have := bel.size; omega
      obtain ⟨y, hy⟩ : ∃ y, y = wishC o cc s v := ⟨_, rfl⟩
      have WA := hide (fun W => wish_any o cc s k v W hf.s y hy.symm)
      have WO := hide (wish_ok o cc s v hf.s.1)
      rw [← hy] at WO
      clear d0 d1 d2 d3 d4 d5 bel hf hy
      go_wp2_with fail
      refine (WA.out _).mono ?_
      rintro e w3 ⟨rfl, g3⟩
      have H3 := hide ((HS.out.gr ((Gr.refl wr).alloc _)).below g3)
      clear g3 e0 e1 e2 e3 e4 e5
      go_wp2_with fail
      refine (apply_wish H3.out i (by omega) LA.out y WO.out).mono ?_
      rintro e w4 ⟨⟨yv, rv, rfl⟩, F4, acc4, l4, k4, h4⟩
      have H4 := hide h4
      have LA4 := hide (And.intro l4 k4)
      clear h4 l4 k4
      go_wp2_with fail
      go_roundg (11 - (i + 1))
      case measure => omega
      case rel => exact ⟨i + 1, F4, acc4, by go_num, by omega, by omega, rfl, LA4.out, H4.out⟩
    · have hgo2 : ¬ (i : Int) < n ∨ ((i : Int) < n ∧ ¬ (i : Int) < 10) := by omega
      have hl : acc.length ≤ 1000000 := by have := LA.out.1; omega
      have HLN := hide hl
      clear hgo hl
      rcases hgo2 with i1 | ⟨i1, i2⟩
      all_goals
        obtain ⟨q1, q2, q3⟩ := zero_not_new acc
        have AZ := hide (fun (W : World) F ks (h : SK w W F B bv bl bd acc ks) => apply_at h 0 0 0 ⟨#[]⟩ ⟨#[]⟩ zero_fit HLN.out q1 q2 q3)
        have TX := hide (fun (W : World) F (h : SS w W F B bv bl bd acc) => text_any h HLN.out)
        have MN := hide (fun (W : World) F (h : SS w W F B bv bl bd acc) => many_any h)
        unfold Rp.zero at AZ
        obtain ⟨tx, htx⟩ : ∃ tx : ByteArray, tx = ⟨(textOf acc).toArray⟩ := ⟨_, rfl⟩
        rw [← htx] at TX
        obtain ⟨mn, hmn⟩ : ∃ mn : Int, mn = (acc.length : Int) := ⟨_, rfl⟩
        rw [← hmn] at MN
        clear q1 q2 q3 htx hmn
        go_wp2_with fail
        refine (TX.out _ _ HS.out.ss).mono ?_
        rintro e w5 ⟨rfl, b5⟩
        have H5 := hide (HS.out.below b5)
        clear b5
        go_wp2_with fail
        refine (MN.out _ _ H5.out.ss).mono ?_
        rintro e w6 ⟨rfl, rfl⟩
        go_wp2_with fail
        refine (AZ.out _ _ _ H5.out).mono ?_
        rintro e w6 ⟨rfl, F6, h6⟩
        have H6 := hide (h6.box 38 #[.int .i64 0, .int .u32 0, .bool false, .string ⟨#[]⟩])
        obtain ⟨x0, x1, x2, x3, x4⟩ := h6.cells5 (by simp : (w.heap.size, 33, #[.int .i64 x.o, .int .i64 x.c, .int .u32 x.s, .string x.k, .string x.v]) ∈ _)
        have l1 := (h6.blk (by simp : (w.heap.size, 33, #[.int .i64 x.o, .int .i64 x.c, .int .u32 x.s, .string x.k, .string x.v]) ∈ _)).lt
        clear h6
        go_wp2_with fail
        refine (RC.out _).mono ?_
        rintro e w7 ⟨rfl, g7⟩
        clear x0 x1 x2 x3 x4 l1
        have h7 := H6.out.gr g7
        have H7 := hide h7
        obtain ⟨x0, x1, x2, x3, x4⟩ := h7.cells5 (by simp : (w.heap.size, 33, #[.int .i64 x.o, .int .i64 x.c, .int .u32 x.s, .string x.k, .string x.v]) ∈ _)
        clear g7 h7
        have hcase : (rr = false) ∨ (rr = true ∧ x.o = 0) ∨ (rr = true ∧ ¬ x.o = 0) := by
          cases rr
          · exact .inl rfl
          · by_cases h0 : x.o = 0
            · exact .inr (.inl ⟨rfl, h0⟩)
            · exact .inr (.inr ⟨rfl, h0⟩)
        have NOT : Hid (rr = false ∨ x.o = 0 → okC x = false) := by
          intro h
          rcases h with rfl | h0
          · have h1 := RR.out
            unfold rightC at h1
            rw [Bool.or_eq_false_iff] at h1
            exact h1.2
          · unfold okC
            exact decide_eq_false (by omega)
        rcases hcase with hr | ⟨hr, h0⟩ | ⟨hr, h0⟩
        · have hno := NOT.out (.inl hr)
          obtain ⟨q1, q2, q3⟩ := wrong_not_new acc hno
          have AX := hide (fun (W : World) F ks (h : SK w W F B bv bl bd acc ks) => apply_at h x.o x.c x.s x.k x.v HX.out HLN.out q1 q2 q3)
          unfold Rp.zero at AX
          subst hr
          clear hno q1 q2 q3
          go_wp2_with fail
          refine (AX.out _ _ _ H7.out).mono ?_
          rintro e w8 ⟨rfl, F8, h8⟩
          have H8 := hide (h8.box 38 #[.int .i64 0, .int .u32 0, .bool false, .string ⟨#[]⟩])
          clear h8 x0 x1 x2 x3 x4
          go_wp2_with fail
          refine (TX.out _ _ H8.out.ss).mono ?_
          rintro e w9 ⟨rfl, b9⟩
          have H9 := hide (H8.out.below b9)
          clear b9
          go_wp2_with fail
          refine (MN.out _ _ H9.out.ss).mono ?_
          rintro e w10 ⟨rfl, rfl⟩
          go_wp2_with fail
          go_ret
          exact ⟨rfl, H9.out.ss.bel⟩
        · have hno := NOT.out (.inr h0)
          obtain ⟨q1, q2, q3⟩ := wrong_not_new acc hno
          have AX := hide (fun (W : World) F ks (h : SK w W F B bv bl bd acc ks) => apply_at h x.o x.c x.s x.k x.v HX.out HLN.out q1 q2 q3)
          unfold Rp.zero at AX
          subst hr
          have h00 : (x.o == 0) = true := by rw [h0]; rfl
          clear hno q1 q2 q3 h0
          go_wp2_with fail
          refine (AX.out _ _ _ H7.out).mono ?_
          rintro e w8 ⟨rfl, F8, h8⟩
          have H8 := hide (h8.box 38 #[.int .i64 0, .int .u32 0, .bool false, .string ⟨#[]⟩])
          clear h8 x0 x1 x2 x3 x4
          go_wp2_with fail
          refine (TX.out _ _ H8.out.ss).mono ?_
          rintro e w9 ⟨rfl, b9⟩
          have H9 := hide (H8.out.below b9)
          clear b9
          go_wp2_with fail
          refine (MN.out _ _ H9.out.ss).mono ?_
          rintro e w10 ⟨rfl, rfl⟩
          go_wp2_with fail
          go_ret
          exact ⟨rfl, H9.out.ss.bel⟩
        · subst hr
          have h00 : (x.o == 0) = false := beq_eq_false_iff_ne.2 h0
          clear h0
          go_wp2_with fail
          refine (TX.out _ _ H7.out.ss).mono ?_
          rintro e w9 ⟨rfl, b9⟩
          have H9 := hide (H7.out.below b9)
          clear b9
          go_wp2_with fail
          refine (MN.out _ _ H9.out.ss).mono ?_
          rintro e w10 ⟨rfl, rfl⟩
          go_wp2_with fail
          go_ret
          exact ⟨rfl, H9.out.ss.bel⟩

end Go.Proofs.Ytfcaneofkdaicaa
