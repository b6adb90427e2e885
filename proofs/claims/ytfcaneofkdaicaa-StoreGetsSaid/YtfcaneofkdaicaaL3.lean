/-
  Chapter 16: StoreGets: walked.
-/
import Derived.Test.YtfcaneofkdaicaaW16
namespace Go.Proofs.Ytfcaneofkdaicaa
open Go.RowKit Go.Sort Go.Maps Go.Shelf

theorem new_of {acc : List Cm} {x : Cm} (hok : okC x = true) (h : ∀ z ∈ acc, ¬ (z.c = x.c ∧ z.s = x.s)) : newC acc x = true ∧ applyC acc x = acc ++ [x] ∧ told acc x = rep acc x := by
  have hn : newC acc x = true := by
    unfold newC
    rw [hok, Bool.true_and, Bool.not_eq_true', List.any_eq_false]
    intro z hz
    unfold Cm.asks
    simpa using h z hz
  exact ⟨hn, by unfold applyC; rw [if_pos hn], by unfold told; rw [if_pos hn]⟩
theorem text_get (acc : List Cm) (c s : Int) (k v : ByteArray) : textOf (acc ++ [⟨2, c, s, k, v⟩]) = textOf acc := by
  have h1 : valsOf (acc ++ [⟨2, c, s, k, v⟩]) = valsOf acc := by rw [valsOf_snoc]; rfl
  have h2 : ∀ j, valOf (acc ++ [⟨2, c, s, k, v⟩]) j = valOf acc j := by
    intro j
    rw [← valsOf_get, h1, valsOf_get]
  have h3 : pairT (acc ++ [⟨2, c, s, k, v⟩]) = pairT acc := by
    funext kk
    unfold pairT
    rw [h2]
  unfold textOf keysOf
  rw [h1, h3]
theorem val_get (acc : List Cm) (c s : Int) (k v j : ByteArray) : valOf (acc ++ [⟨2, c, s, k, v⟩]) j = valOf acc j := by
  rw [valOf_snoc]
  unfold stepO
  by_cases h : k = j <;> simp [h]
theorem val_del (acc : List Cm) (c s : Int) (k v : ByteArray) : valOf (acc ++ [⟨3, c, s, k, v⟩]) k = none := by
  rw [valOf_snoc]
  unfold stepO
  simp
theorem val_put (acc : List Cm) (c s : Int) (k v : ByteArray) : valOf (acc ++ [⟨1, c, s, k, v⟩]) k = some v := by
  rw [valOf_snoc]
  unfold stepO
  simp
theorem okC_mk {o c s : Int} {k v : ByteArray} (h1 : 1 ≤ o ∧ o ≤ 3) (h2 : 1 ≤ c ∧ c ≤ 64) (h3 : 1 ≤ s) (h4 : k.size ≠ 0 ∧ k.size ≤ 16) (h5 : v.size ≤ 32) (h6 : o = 1 ∨ v.size = 0) : okC ⟨o, c, s, k, v⟩ = true := decide_eq_true ⟨h1, h2, h3, h4, h5, h6⟩
theorem key_size {k : ByteArray} (h : isKey k) : k.size = 1 := by rcases h with rfl | rfl | rfl <;> rfl
/-- What Get, Del, Put tell behind commands of few clients. -/
theorem gets_facts {acc : List Cm} (hf : ∀ x ∈ acc, few x) {k V : ByteArray} (hk : isKey k) (hV : V.size ≤ 32) {v0 : ByteArray} {r0 : Bool} (hv0 : (valOf acc k).getD ⟨#[]⟩ = v0) (hr0 : (valOf acc k).isSome = r0) :
    (told acc ⟨2, 60, 1, k, ⟨#[]⟩⟩ = ⟨60, 1, r0, v0⟩ ∧ newC acc ⟨2, 60, 1, k, ⟨#[]⟩⟩ = true ∧ applyC acc ⟨2, 60, 1, k, ⟨#[]⟩⟩ = acc ++ [⟨2, 60, 1, k, ⟨#[]⟩⟩]) ∧
    (told (acc ++ [⟨2, 60, 1, k, ⟨#[]⟩⟩]) ⟨3, 60, 2, k, ⟨#[]⟩⟩ = ⟨60, 2, r0, v0⟩ ∧ newC (acc ++ [⟨2, 60, 1, k, ⟨#[]⟩⟩]) ⟨3, 60, 2, k, ⟨#[]⟩⟩ = true ∧ applyC (acc ++ [⟨2, 60, 1, k, ⟨#[]⟩⟩]) ⟨3, 60, 2, k, ⟨#[]⟩⟩ = acc ++ [⟨2, 60, 1, k, ⟨#[]⟩⟩] ++ [⟨3, 60, 2, k, ⟨#[]⟩⟩]) ∧
    (told (acc ++ [⟨2, 60, 1, k, ⟨#[]⟩⟩] ++ [⟨3, 60, 2, k, ⟨#[]⟩⟩]) ⟨1, 60, 3, k, V⟩ = ⟨60, 3, false, ⟨#[]⟩⟩ ∧ newC (acc ++ [⟨2, 60, 1, k, ⟨#[]⟩⟩] ++ [⟨3, 60, 2, k, ⟨#[]⟩⟩]) ⟨1, 60, 3, k, V⟩ = true ∧
      applyC (acc ++ [⟨2, 60, 1, k, ⟨#[]⟩⟩] ++ [⟨3, 60, 2, k, ⟨#[]⟩⟩]) ⟨1, 60, 3, k, V⟩ = acc ++ [⟨2, 60, 1, k, ⟨#[]⟩⟩] ++ [⟨3, 60, 2, k, ⟨#[]⟩⟩] ++ [⟨1, 60, 3, k, V⟩]) := by
  have hks := key_size hk
  have hz : (⟨#[]⟩ : ByteArray).size = 0 := rfl
  have n1 := new_of (acc := acc) (x := ⟨2, 60, 1, k, ⟨#[]⟩⟩) (okC_mk (by omega) (by omega) (by omega) (by omega) (by omega) (.inr hz)) (fun z hz h => by have := (hf z hz).2; have := h.1; simp only at this; omega)
  have n2 := new_of (acc := acc ++ [⟨2, 60, 1, k, ⟨#[]⟩⟩]) (x := ⟨3, 60, 2, k, ⟨#[]⟩⟩) (okC_mk (by omega) (by omega) (by omega) (by omega) (by omega) (.inr hz)) (fun z hz h => by
    rcases List.mem_append.1 hz with hz | hz
    · have := (hf z hz).2; have := h.1; simp only at this; omega
    · rw [List.mem_singleton.1 hz] at h; have := h.2; simp only at this; omega)
  have n3 := new_of (acc := acc ++ [⟨2, 60, 1, k, ⟨#[]⟩⟩] ++ [⟨3, 60, 2, k, ⟨#[]⟩⟩]) (x := ⟨1, 60, 3, k, V⟩) (okC_mk (by omega) (by omega) (by omega) (by omega) hV (.inl rfl)) (fun z hz h => by
    rcases List.mem_append.1 hz with hz | hz
    · rcases List.mem_append.1 hz with hz | hz
      · have := (hf z hz).2; have := h.1; simp only at this; omega
      · rw [List.mem_singleton.1 hz] at h; have := h.2; simp only at this; omega
    · rw [List.mem_singleton.1 hz] at h; have := h.2; simp only at this; omega)
  refine ⟨⟨?_, n1.1, n1.2.1⟩, ⟨?_, n2.1, n2.2.1⟩, ?_, n3.1, n3.2.1⟩
  · rw [n1.2.2]; unfold rep; simp only [hv0, hr0]
  · rw [n2.2.2]; unfold rep; simp only [val_get, hv0, hr0]
  · rw [n3.2.2]; unfold rep; simp only [val_del]; rfl
theorem gets_fit {k V : ByteArray} (hk : isKey k) (hV : V.size ≤ 32) (o s : Int) (ho : 0 ≤ o ∧ o ≤ 3) (hs : 0 ≤ s ∧ s ≤ 3) : Cm.Fit ⟨o, 60, s, k, V⟩ := by
  have hks := key_size hk
  refine ⟨?_, ?_, ?_, ?_, ?_⟩
  · show Fits o; unfold Fits; omega
  · show Fits 60; unfold Fits; omega
  · show FitsU s; unfold FitsU; omega
  · show k.size ≤ _; omega
  · show V.size ≤ _; omega
theorem slice_32 (v : ByteArray) (V : ByteArray) (W : World) (hV : v.extract 0 (min v.size 32) = V) : (Instr.slice 9 (.string v) none (some (.int .i64 (min (v.size : Int) 32))) none).run Try.prog W = .ok (.string V) W := by
  rw [run_slice_string_h W 9 v Try.underlying9 .i64 (min (v.size : Int) 32) (by omega) (by omega), ← hV]
  congr 3
  omega

set_option maxRecDepth 100000 in
set_option maxHeartbeats 8000000 in
theorem gets_law (A : Option Addr) (n c : Nat) (ky : Int) (va : ByteArray) (w : World) (hW : Wishes w A n) (hn : n ≤ 9223372036854775807) (hk0 : 0 ≤ ky ∧ ky ≤ 255) (hva : va.size ≤ 9223372036854775807) :
    Calls Try.prog 6 #[.slice A n c, .int .u8 ky, .string va] w fun e w' => e = .returned (.bool true) ∧ Below w.heap.size w w' := by
  have HW := hide hW
  obtain ⟨r3, hr3⟩ : ∃ r3, ky.tmod 3 = r3 := ⟨_, rfl⟩
  have h3 : 0 ≤ r3 ∧ r3 ≤ 2 := by rw [← hr3, Int.tmod_eq_emod_of_nonneg hk0.1]; omega
  have q1 : IntKind.u8.wrap (97 + r3) = 97 + r3 := IntWalk.u8_in _ (by omega)
  have cv := fun (W : World) (g : Nat) (h : W.cell? ⟨g, 0, none⟩ = some (.int .u8 (97 + r3))) => conv_one W g (97 + r3) (by omega) h
  obtain ⟨kb, hkb⟩ : ∃ kb : ByteArray, kb = ⟨#[UInt8.ofNat (97 + r3).toNat]⟩ := ⟨_, rfl⟩
  rw [← hkb] at cv
  have KB : Hid (isKey kb) := by
    rw [hkb]
    have : r3 = 0 ∨ r3 = 1 ∨ r3 = 2 := by omega
    rcases this with h | h | h
    · left; rw [h]; rfl
    · right; left; rw [h]; rfl
    · right; right; rw [h]; rfl
  have kbs : kb.size ≤ 9223372036854775807 := by have := key_size KB.out; omega
  have KBS := hide kbs
  obtain ⟨V, hV⟩ : ∃ V, va.extract 0 (min va.size 32) = V := ⟨_, rfl⟩
  have hsl := fun (W : World) => slice_32 va V W hV
  have hVs : V.size ≤ 32 := by rw [← hV, ByteArray.size_extract]; omega
  have HVS := hide hVs
  clear hW hkb h3 kbs hV hVs hk0
  go_enter Try.func6, Try.ntmps6
  go_wp2_with fail
  refine (examples_any _).mono ?_
  rintro e w1 ⟨rfl, hb1⟩
  have B1 := hide hb1
  clear hb1
  go_wp2_with fail
  refine (new_sk w w1 B1.out).mono ?_
  rintro e w2 ⟨F, B, bv, bl, bd, rfl, h2⟩
  have H2 := hide h2
  clear h2
  go_wp2_with fail
  go_loopg [9] (21) (fun q u wr => ∃ (i : Nat) (F : List Nat) (acc : List Cm), u = .int .i64 (i : Int) ∧ i ≤ 20 ∧ i ≤ n ∧ q = 21 - i ∧ Hid (acc.length ≤ i ∧ ∀ x ∈ acc, few x) ∧ Hid (SK w wr F B bv bl bd acc []))
  case atStart => exact ⟨0, F, [], rfl, by omega, by omega, by omega, ⟨Nat.le_refl _, by simp⟩, H2.out⟩
  case round =>
    obtain ⟨i, F, acc, rfl, hi, hin, rfl, LA, HS⟩ := hrel
    by_cases hgo : i < n ∧ i < 20
    · have i1 : (i : Int) < n := by omega
      have i2 : (i : Int) < 20 := by omega
      have i0 : (0 : Int) ≤ i := by omega
      have hlt : i < n := hgo.1
      have h30 : i < 20 := hgo.2
      clear hgo
      obtain ⟨ab, ao, rfl, hab, o, cc, s, k, v, own, d0, d1, d2, d3, d4, d5, hf⟩ := HW.out i hlt
      have bel := HS.out.ss.bel
      have e0 := (bel.cell (p := ⟨ab, ao + i * 6, none⟩) hab).trans d0
      have e1 := (bel.cell (p := ⟨ab, ao + i * 6 + 1, none⟩) hab).trans d1
      have e2 := (bel.cell (p := ⟨ab, ao + i * 6 + 2, none⟩) hab).trans d2
      have e3 := (bel.cell (p := ⟨ab, ao + i * 6 + 3, none⟩) hab).trans d3
      have e4 := (bel.cell (p := ⟨ab, ao + i * 6 + 4, none⟩) hab).trans d4
      have e5 := (bel.cell (p := ⟨ab, ao + i * 6 + 5, none⟩) hab).trans d5
      have hlt2 : ab < wr.heap.size := by have := bel.size; omega
      obtain ⟨y, hy⟩ : ∃ y, y = wishC o cc s v := ⟨_, rfl⟩
      have WA := hide (fun W => wish_any o cc s k v W hf.s y hy.symm)
      have WO := hide (wish_ok o cc s v hf.s.1)
      rw [← hy] at WO
      clear d0 d1 d2 d3 d4 d5 bel hf hy
      go_wp2_with fail
      refine (WA.out _).mono ?_
      rintro e w3 ⟨rfl, g3⟩
      have H3 := hide ((HS.out.gr ((Gr.refl wr).alloc _)).below g3)
      clear g3 e0 e1 e2 e3 e4 e5
      go_wp2_with fail
      refine (apply_wish H3.out i (by omega) LA.out y WO.out).mono ?_
      rintro e w4 ⟨⟨yv, rv, rfl⟩, F4, acc4, l4, k4, h4⟩
      have H4 := hide h4
      have LA4 := hide (And.intro l4 k4)
      clear h4 l4 k4
      go_wp2_with fail
      go_roundg (21 - (i + 1))
      case measure => omega
      case rel => exact ⟨i + 1, F4, acc4, by go_num, by omega, by omega, rfl, LA4.out, H4.out⟩
    · have hgo2 : ¬ (i : Int) < n ∨ ((i : Int) < n ∧ ¬ (i : Int) < 20) := by omega
      have hl : acc.length ≤ 1000000 := by have := LA.out.1; omega
      have HLN := hide hl
      clear hgo hl
      rcases hgo2 with i1 | ⟨i1, i2⟩
      all_goals
        obtain ⟨v0, hv0⟩ : ∃ v0, (valOf acc kb).getD ⟨#[]⟩ = v0 := ⟨_, rfl⟩
        obtain ⟨r0, hr0⟩ : ∃ r0, (valOf acc kb).isSome = r0 := ⟨_, rfl⟩
        obtain ⟨⟨a1, a2, a3⟩, ⟨b1, b2, b3⟩, d1, d2, d3⟩ := gets_facts LA.out.2 KB.out HVS.out hv0 hr0
        have hl1 : acc.length ≤ 30 := by have := LA.out.1; omega
        obtain ⟨acc1, ha1⟩ : ∃ acc1, acc1 = acc ++ [⟨2, 60, 1, kb, ⟨#[]⟩⟩] := ⟨_, rfl⟩
        rw [← ha1] at a3 b1 b2 b3 d1 d2 d3
        obtain ⟨acc2, ha2⟩ : ∃ acc2, acc2 = acc1 ++ [⟨3, 60, 2, kb, ⟨#[]⟩⟩] := ⟨_, rfl⟩
        rw [← ha2] at b3 d1 d2 d3
        obtain ⟨acc3, ha3⟩ : ∃ acc3, acc3 = acc2 ++ [⟨1, 60, 3, kb, V⟩] := ⟨_, rfl⟩
        rw [← ha3] at d3
        have hl11 : acc1.length = acc.length + 1 := by rw [ha1]; simp
        have hl12 : acc2.length = acc1.length + 1 := by rw [ha2]; simp
        have htx : textOf acc1 = textOf acc := by rw [ha1]; exact text_get _ _ _ _ _
        have hv2 : valOf acc2 kb = none := by rw [ha2]; exact val_del _ _ _ _ _
        have hv3 : valOf acc3 kb = some V := by rw [ha3]; exact val_put _ _ _ _ _
        have V0 := hide (fun (W : World) F (h : SS w W F B bv bl bd acc) => value_any h kb KBS.out v0 r0 hv0 hr0)
        have V2 := hide (fun (W : World) F (h : SS w W F B bv bl bd acc2) => value_any h kb KBS.out ⟨#[]⟩ false (by rw [hv2]; rfl) (by rw [hv2]; rfl))
        have V3 := hide (fun (W : World) F (h : SS w W F B bv bl bd acc3) => value_any h kb KBS.out V true (by rw [hv3]; rfl) (by rw [hv3]; rfl))
        have T0 := hide (fun (W : World) F (h : SS w W F B bv bl bd acc) => text_any h (by omega))
        have T1 := hide (fun (W : World) F (h : SS w W F B bv bl bd acc1) => text_any h (by omega))
        rw [htx] at T1
        have A1 := hide (fun (W : World) F ks (h : SK w W F B bv bl bd acc ks) => apply_at h 2 60 1 kb ⟨#[]⟩ (gets_fit KB.out (by show (0 : Nat) ≤ 32; omega) 2 1 (by omega) (by omega)) (by omega) a1 a2 a3)
        have A2 := hide (fun (W : World) F ks (h : SK w W F B bv bl bd acc1 ks) => apply_at h 3 60 2 kb ⟨#[]⟩ (gets_fit KB.out (by show (0 : Nat) ≤ 32; omega) 3 2 (by omega) (by omega)) (by omega) b1 b2 b3)
        have A3 := hide (fun (W : World) F ks (h : SK w W F B bv bl bd acc2 ks) => apply_at h 1 60 3 kb V (gets_fit KB.out HVS.out 1 3 (by omega) (by omega)) (by omega) d1 d2 d3)
        obtain ⟨tx, htx2⟩ : ∃ tx : ByteArray, tx = ⟨(textOf acc).toArray⟩ := ⟨_, rfl⟩
        rw [← htx2] at T0 T1
        clear a1 a2 a3 b1 b2 b3 d1 d2 d3 hv0 hr0 hl1 ha1 ha2 ha3 hl11 hl12 htx hv2 hv3 htx2
        have HB := hide ((HS.out.gr ((Gr.refl wr).alloc (.cells #[.int .u8 (97 + r3)] 5))))
        go_wp2_with fail
        refine (V0.out _ _ HB.out.ss).mono ?_
        rintro e w5 ⟨rfl, rfl⟩
        go_wp2_with fail
        refine (T0.out _ _ HB.out.ss).mono ?_
        rintro e w5 ⟨rfl, b5⟩
        have H5 := hide (HB.out.below b5)
        clear b5
        go_wp2_with fail
        refine (A1.out _ _ _ H5.out).mono ?_
        rintro e w6 ⟨rfl, F6, h6⟩
        have H6 := hide (h6.box 38 #[.int .i64 60, .int .u32 1, .bool r0, .string v0])
        clear h6
        go_wp2_with fail
        refine (T1.out _ _ H6.out.ss).mono ?_
        rintro e w7 ⟨rfl, b7⟩
        have H7 := hide (H6.out.below b7)
        clear b7
        go_wp2_with fail
        refine (A2.out _ _ _ H7.out).mono ?_
        rintro e w8 ⟨rfl, F8, h8⟩
        have H8 := hide (h8.box 38 #[.int .i64 60, .int .u32 2, .bool r0, .string v0])
        clear h8
        go_wp2_with fail
        refine (V2.out _ _ H8.out.ss).mono ?_
        rintro e w9 ⟨rfl, rfl⟩
        go_wp2_with fail
        refine (A3.out _ _ _ H8.out).mono ?_
        rintro e w9 ⟨rfl, F9, h9⟩
        have h9' := h9.box 38 #[.int .i64 60, .int .u32 3, .bool false, .string ⟨#[]⟩]
        have H9 := hide h9'
        obtain ⟨x0, x1, x2, x3⟩ := h9'.cells4 (by simp : (w6.heap.size, 38, #[.int .i64 60, .int .u32 1, .bool r0, .string v0]) ∈ _)
        obtain ⟨y0, y1, y2, y3⟩ := h9'.cells4 (by simp : (w8.heap.size, 38, #[.int .i64 60, .int .u32 2, .bool r0, .string v0]) ∈ _)
        obtain ⟨z0, z1, z2, z3⟩ := h9'.cells4 (by simp : (w9.heap.size, 38, #[.int .i64 60, .int .u32 3, .bool false, .string ⟨#[]⟩]) ∈ _)
        clear h9 h9'
        go_wp2_with fail
        refine (V3.out _ _ H9.out.ss).mono ?_
        rintro e w10 ⟨rfl, rfl⟩
        go_wp2_with fail
        go_ret
        exact ⟨rfl, H9.out.ss.bel⟩

end Go.Proofs.Ytfcaneofkdaicaa
