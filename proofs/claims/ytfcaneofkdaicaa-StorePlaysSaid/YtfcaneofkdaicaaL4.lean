/-
  Chapter 16: StoreKeys: walked.
-/
import Derived.Test.YtfcaneofkdaicaaP1
import Derived.Shelf.SlSortCmp.QuietGrown
namespace Go.Proofs.Ytfcaneofkdaicaa
open Go.RowKit Go.Sort Go.Maps Go.Shelf

theorem sum_str (a b : ByteArray) (ha : a.size ≤ 8388608) (hb : b.size ≤ 8388608) (W : World) : (Op.stringOp .add a b).run Try.prog W = .ok (.string (a ++ b)) W := run_string_add W a b (by omega) (by omega)
theorem str_mk (l m : List UInt8) : (⟨l.toArray⟩ : ByteArray) ++ ⟨m.toArray⟩ = ⟨(l ++ m).toArray⟩ := by
  apply ByteArray.ext
  apply Array.toList_inj.1
  simp [ByteArray.data_append]
theorem str_len (l : List UInt8) : (⟨l.toArray⟩ : ByteArray).size = l.length := by simp [ByteArray.size]

set_option maxRecDepth 100000 in
set_option maxHeartbeats 8000000 in
theorem keys_law (A : Option Addr) (n c : Nat) (w : World) (hW : Wishes w A n) (hn : n ≤ 9223372036854775807) :
    Calls Try.prog 8 #[.slice A n c] w fun e w' => e = .returned (.bool true) ∧ Below w.heap.size w w' := by
  have HW := hide hW
  clear hW
  go_enter Try.func8, Try.ntmps8
  go_wp2_with fail
  refine (examples_any _).mono ?_
  rintro e w1 ⟨rfl, hb1⟩
  have B1 := hide hb1
  clear hb1
  go_wp2_with fail
  refine (new_sk w w1 B1.out).mono ?_
  rintro e w2 ⟨F, B, bv, bl, bd, rfl, h2⟩
  have H2 := hide h2
  clear h2
  go_wp2_with fail
  go_loopg [5] (31) (fun q u wr => ∃ (i : Nat) (F : List Nat) (acc : List Cm), u = .int .i64 (i : Int) ∧ i ≤ 30 ∧ i ≤ n ∧ q = 31 - i ∧ Hid (acc.length ≤ i ∧ ∀ x ∈ acc, few x) ∧ Hid (SK w wr F B bv bl bd acc []))
  case atStart => exact ⟨0, F, [], rfl, by omega, by omega, by omega, ⟨Nat.le_refl _, by simp⟩, H2.out⟩
  case round =>
    obtain ⟨i, F, acc, rfl, hi, hin, rfl, LA, HS⟩ := hrel
    by_cases hgo : i < n ∧ i < 30
    · have i1 : (i : Int) < n := by omega
      have i2 : (i : Int) < 30 := by omega
      have i0 : (0 : Int) ≤ i := by omega
      have hlt : i < n := hgo.1
      have h30 : i < 30 := hgo.2
      clear hgo
      obtain ⟨ab, ao, rfl, hab, o, cc, s, k, v, own, d0, d1, d2, d3, d4, d5, hf⟩ := HW.out i hlt
      have bel := HS.out.ss.bel
      have e0 := (bel.cell (p := ⟨ab, ao + i * 6, none⟩) hab).trans d0
      have e1 := (bel.cell (p := ⟨ab, ao + i * 6 + 1, none⟩) hab).trans d1
      have e2 := (bel.cell (p := ⟨ab, ao + i * 6 + 2, none⟩) hab).trans d2
      have e3 := (bel.cell (p := ⟨ab, ao + i * 6 + 3, none⟩) hab).trans d3
      have e4 := (bel.cell (p := ⟨ab, ao + i * 6 + 4, none⟩) hab).trans d4
      have e5 := (bel.cell (p := ⟨ab, ao + i * 6 + 5, none⟩) hab).trans d5
      have hlt2 : ab < wr.heap.size := by have := bel.size; omega
      obtain ⟨y, hy⟩ : ∃ y, y = wishC o cc s v := ⟨_, rfl⟩
      have WA := hide (fun W => wish_any o cc s k v W hf.s y hy.symm)
      have WO := hide (wish_ok o cc s v hf.s.1)
      rw [← hy] at WO
      clear d0 d1 d2 d3 d4 d5 bel hf hy
      go_wp2_with fail
      refine (WA.out _).mono ?_
      rintro e w3 ⟨rfl, g3⟩
      have H3 := hide ((HS.out.gr ((Gr.refl wr).alloc _)).below g3)
      clear g3 e0 e1 e2 e3 e4 e5
      go_wp2_with fail
      refine (apply_wish H3.out i (by omega) LA.out y WO.out).mono ?_
      rintro e w4 ⟨⟨yv, rv, rfl⟩, F4, acc4, l4, k4, h4⟩
      have H4 := hide h4
      have LA4 := hide (And.intro l4 k4)
      clear h4 l4 k4
      go_wp2_with fail
      go_roundg (31 - (i + 1))
      case measure => omega
      case rel => exact ⟨i + 1, F4, acc4, by go_num, by omega, by omega, rfl, LA4.out, H4.out⟩
    · have hgo2 : ¬ (i : Int) < n ∨ ((i : Int) < n ∧ ¬ (i : Int) < 30) := by omega
      have hl : acc.length ≤ 1000000 := by have := LA.out.1; omega
      have HLN := hide hl
      clear hgo hl
      rcases hgo2 with i1 | ⟨i1, i2⟩
      all_goals
        have KA := hide (keys_any HS.out.ss HLN.out)
        obtain ⟨ks, hks⟩ : ∃ ks, ks = keysOf acc := ⟨_, rfl⟩
        obtain ⟨m, hm⟩ : ∃ m, m = ks.length := ⟨_, rfl⟩
        have hm1 : m ≤ 30 := by rw [hm, hks]; exact Nat.le_trans (keys_len acc) (by have := LA.out.1; omega)
        have OK := hide HS.out.ss.ok
        have KL : Hid (∀ k, k < m → (ks.getD k []) ∈ keysOf acc) := by
          intro k hk
          rw [← hks]
          have hk' : k < ks.length := by omega
          simp [List.getD, hk']
        have KS := hide hks
        have HM := hide hm
        have TN : Hid (∀ k, (textN acc k).length ≤ 1500) := fun k => Nat.le_trans (textN_le HS.out.ss.ok k) (by have := LA.out.1; omega)
        clear hks hm
        go_wp2_with fail
        refine KA.out.mono ?_
        rintro e w3 ⟨v, rfl, ho, hb⟩
        rw [← KS.out, ← HM.out] at ho
        obtain ⟨A3, c3, rfl, hA⟩ := own_slice ho
        have O3 := hide ho
        have H3 := hide (HS.out.below hb)
        have HA := hide hA
        clear ho hb hA
        go_wp2_with fail
        go_loopg [8, 10, 11, 12] (m + 1) (fun q u8 u10 u11 u12 wr => ∃ (k : Nat) (T : ByteArray), u10 = .int .i64 (k : Int) ∧ u8 = .string T ∧ k ≤ m ∧ q = m + 1 - k ∧ Hid (T = ⟨(textN acc k).toArray⟩) ∧ Hid (SK w wr F B bv bl bd acc []) ∧
          Hid (wr.ownsRow w.heap.size 9 1 (.slice A3 m c3) m (ks.map encStr)))
        case atStart => exact ⟨0, ⟨#[]⟩, rfl, rfl, by omega, by omega, by show _ = _; rw [textN_zero], H3.out, own_base O3.out HS.out.ss.bel.size⟩
        case round =>
          obtain ⟨k, T, rfl, rfl, hk, rfl, HT, HR, OR⟩ := hrel
          by_cases hlt : k < m
          · have k1 : (k : Int) < m := by omega
            have k0 : (0 : Int) ≤ k := by omega
            obtain ⟨g, rfl⟩ := HA.out (by omega)
            obtain ⟨kk, hkk⟩ : ∃ kk, kk = ks.getD k [] := ⟨_, rfl⟩
            obtain ⟨K, hK⟩ : ∃ K : ByteArray, K = ⟨kk.toArray⟩ := ⟨_, rfl⟩
            have at_ : ∀ j, j < m → wr.cell? ⟨g, j, none⟩ = some (.string ⟨(ks.getD j []).toArray⟩) := by
              intro j hj
              have hj' : j < ks.length := by have := HM.out; omega
              have := OR.out.cells (g := g) rfl j (encStr (ks.getD j [])) (by rw [List.getElem?_map, List.getElem?_eq_getElem hj', show ks.getD j [] = ks[j] from by simp only [List.getD, List.getElem?_eq_getElem hj', Option.getD_some]]; rfl)
              rw [add_row, Nat.zero_add] at this
              exact this
            have hc : wr.cell? ⟨g, k, none⟩ = some (.string K) := by rw [hK, hkk]; exact at_ k hlt
            have hmem := KL.out k hlt
            rw [← hkk] at hmem
            obtain ⟨V, hV⟩ : ∃ V, (valOf acc K).getD ⟨#[]⟩ = V := ⟨_, rfl⟩
            have hKs : K.size ≤ 16 := by rw [hK, str_len]; exact keys_le OK.out hmem
            have hVs : V.size ≤ 32 := by rw [← hV]; exact valOf_le OK.out K
            have hsome : (valOf acc K).isSome = true := by rw [hK]; exact key_val hmem
            have VA := hide (value_any HR.out.ss K (by omega) V true hV hsome)
            have hTs : T.size ≤ 1500 := by rw [HT.out, str_len]; exact TN.out k
            obtain ⟨T1, hT1⟩ : ∃ T1, T1 = T ++ (⟨#[59]⟩ : ByteArray) := ⟨_, rfl⟩
            have hT1s : T1.size = T.size + 1 := by rw [hT1]; exact ByteArray.size_append
            have add1 : ∀ W : World, (Op.stringOp .add T ⟨#[59]⟩).run Try.prog W = .ok (.string T1) W := fun W => by rw [hT1]; exact sum_str T ⟨#[59]⟩ (by omega) (by show (1 : Nat) ≤ _; omega) W
            obtain ⟨T2, hT2⟩ : ∃ T2, T2 = (if k = 0 then T else T1) := ⟨_, rfl⟩
            have hT2s : T2.size ≤ 1501 := by rw [hT2]; split <;> omega
            obtain ⟨T3, hT3⟩ : ∃ T3, T3 = T2 ++ K := ⟨_, rfl⟩
            have hT3s : T3.size ≤ 1520 := by rw [hT3, ByteArray.size_append]; omega
            have add2 : ∀ W : World, (Op.stringOp .add T2 K).run Try.prog W = .ok (.string T3) W := fun W => by rw [hT3]; exact sum_str T2 K (by omega) (by omega) W
            obtain ⟨T4, hT4⟩ : ∃ T4, T4 = T3 ++ (⟨#[61]⟩ : ByteArray) := ⟨_, rfl⟩
            have hT4s : T4.size ≤ 1521 := by rw [hT4, ByteArray.size_append]; show T3.size + 1 ≤ _; omega
            have add3 : ∀ W : World, (Op.stringOp .add T3 ⟨#[61]⟩).run Try.prog W = .ok (.string T4) W := fun W => by rw [hT4]; exact sum_str T3 ⟨#[61]⟩ (by omega) (by show (1 : Nat) ≤ _; omega) W
            obtain ⟨T5, hT5⟩ : ∃ T5, T5 = T4 ++ V := ⟨_, rfl⟩
            have add4 : ∀ W : World, (Op.stringOp .add T4 V).run Try.prog W = .ok (.string T5) W := fun W => by rw [hT5]; exact sum_str T4 V (by omega) (by omega) W
            have HTN : Hid (T5 = ⟨(textN acc (k + 1)).toArray⟩) := by
              have hk' : k < (keysOf acc).length := by have := HM.out; have := KS.out; rw [← this]; omega
              show _ = _
              rw [textN_succ acc hk', ← KS.out, ← hkk, hT5, hT4, hT3, hT2, hT1, HT.out, hK, ← hV, hK]
              unfold pairT
              by_cases h0 : k = 0
              · subst h0
                rw [if_pos rfl, if_pos rfl, textN_zero]
                apply ByteArray.ext
                apply Array.toList_inj.1
                simp [ByteArray.data_append]
              · rw [if_neg h0, if_neg h0]
                apply ByteArray.ext
                apply Array.toList_inj.1
                simp [ByteArray.data_append]
            have HKK := hide hkk
            have HKE := hide hK
            have HAT := hide at_
            clear hT5 hT4 hT3 hT1 hT1s hT2s hT3s hT4s hV hmem hsome hkk at_ hKs hVs hTs hK
            go_wp2_with fail
            refine VA.out.mono ?_
            rintro e w4 ⟨rfl, rfl⟩
            by_cases h0 : k = 0
            · rw [if_pos h0] at hT2
              subst hT2
              have kz : decide ((0 : Int) < (k : Int)) = false := by rw [decide_eq_false_iff_not]; omega
              have kz2 : decide (0 < k) = false := by rw [decide_eq_false_iff_not]; omega
              clear h0
              have hmix := mixed
              go_wp2_with fail
              go_quiet (fail)
              have hk0 : ¬ 0 < k := by simpa using kz2
              go_wp2_with fail
              go_roundg (m + 1 - (k + 1))
              case measure => omega
              case rel => exact ⟨k + 1, T5, by go_num, rfl, by omega, rfl, HTN.out, HR.out.gr ((Gr.refl wr).drewN nq), OR.out⟩
            · rw [if_neg h0] at hT2
              subst hT2
              obtain ⟨j, hj⟩ : ∃ j, k = j + 1 := ⟨k - 1, by omega⟩
              obtain ⟨K0, hK0⟩ : ∃ K0 : ByteArray, K0 = ⟨(ks.getD j []).toArray⟩ := ⟨_, rfl⟩
              have hc0 : wr.cell? ⟨g, j, none⟩ = some (.string K0) := by rw [hK0]; exact HAT.out j (by omega)
              have hls : Op.bytesLess K0.toList K.toList = true := by
                rw [bytesLess_eq, hK0, HKE.out, HKK.out, Go.Lib.toList_data, Go.Lib.toList_data]
                refine decide_eq_true ?_
                have h1 := keys_lt (acc := acc) (i := j) (by have := HM.out; have := KS.out; rw [← this]; omega)
                rw [← KS.out] at h1
                rw [hj]
                exact h1
              have jw : IntKind.i64.wrap ((k : Int) - 1) = (j : Int) := by rw [IntWalk.i64_in _ (by omega)]; omega
              have j1 : (j : Int) < m := by omega
              have j0 : (0 : Int) ≤ j := by omega
              have kz : decide ((0 : Int) < (k : Int)) = true := decide_eq_true (by omega)
              have kz2 : decide (0 < k) = true := decide_eq_true (by omega)
              have kz3 : 0 < k := by omega
              have hmix := mixed
              clear h0 hj hK0
              go_wp2_with fail
              go_quiet (fail)
              go_wp2_with fail
              go_roundg (m + 1 - (k + 1))
              case measure => omega
              case rel => exact ⟨k + 1, T5, by go_num, rfl, by omega, rfl, HTN.out, HR.out.gr ((Gr.refl wr).drewN nq), OR.out⟩
          · have k1 : ¬ (k : Int) < m := by omega
            obtain rfl : m = k := by omega
            have hT : T = ⟨(textOf acc).toArray⟩ := by
              have h1 := HT.out
              rw [show textN acc m = textOf acc from by rw [HM.out, KS.out]; exact textN_all acc] at h1
              exact h1
            have hl := HLN.out
            have TX := hide (fun (W : World) F (h : SS w W F B bv bl bd acc) => text_any h hl)
            rw [← hT] at TX
            obtain ⟨va, hva⟩ : ∃ va, (valOf acc ⟨#[97]⟩).getD ⟨#[]⟩ = va := ⟨_, rfl⟩
            obtain ⟨ra, hra⟩ : ∃ ra, (valOf acc ⟨#[97]⟩).isSome = ra := ⟨_, rfl⟩
            obtain ⟨vb, hvb⟩ : ∃ vb, (valOf acc ⟨#[98]⟩).getD ⟨#[]⟩ = vb := ⟨_, rfl⟩
            obtain ⟨rb, hrb⟩ : ∃ rb, (valOf acc ⟨#[98]⟩).isSome = rb := ⟨_, rfl⟩
            obtain ⟨vc, hvc⟩ : ∃ vc, (valOf acc ⟨#[99]⟩).getD ⟨#[]⟩ = vc := ⟨_, rfl⟩
            obtain ⟨rc, hrc⟩ : ∃ rc, (valOf acc ⟨#[99]⟩).isSome = rc := ⟨_, rfl⟩
            have hcnt := keys_count LA.out.2
            rw [hra, hrb, hrc, ← KS.out, ← HM.out] at hcnt
            have HW3 := hide (HR.out.box 9 #[.string ⟨#[97]⟩, .string ⟨#[98]⟩, .string ⟨#[99]⟩])
            have h1size : (1 : Nat) ≤ 9223372036854775807 := by omega
            have VA := hide (value_any HW3.out.ss ⟨#[97]⟩ h1size va ra hva hra)
            have VB := hide (value_any HW3.out.ss ⟨#[98]⟩ h1size vb rb hvb hrb)
            have VC := hide (value_any HW3.out.ss ⟨#[99]⟩ h1size vc rc hvc hrc)
            obtain ⟨s1, hs1⟩ : ∃ s1, s1 = b2i ra := ⟨_, rfl⟩
            obtain ⟨s2, hs2⟩ : ∃ s2, s2 = s1 + b2i rb := ⟨_, rfl⟩
            have hb : ∀ b, 0 ≤ b2i b ∧ b2i b ≤ 1 := fun b => by cases b <;> simp [b2i]
            have hba := hb ra
            have hbb := hb rb
            have hbc := hb rc
            have hs3 : (m : Int) = s2 + b2i rc := by rw [hs2, hs1]; exact hcnt
            have fa : ra = true → IntKind.i64.wrap (0 + 1) = s1 := fun h => by rw [hs1, h]; rfl
            have fa0 : ra = false → s1 = 0 := fun h => by rw [hs1, h]; rfl
            have fb : rb = true → IntKind.i64.wrap (s1 + 1) = s2 := fun h => by rw [hs2, h, IntWalk.i64_in _ (by omega)]; rfl
            have fb0 : rb = false → s2 = s1 := fun h => by rw [hs2, h]; simp [b2i]
            have fc : rc = true → IntKind.i64.wrap (s2 + 1) = (m : Int) := fun h => by rw [hs3, h, IntWalk.i64_in _ (by omega)]; rfl
            have fc0 : rc = false → (m : Int) = s2 := fun h => by rw [hs3, h]; simp [b2i]
            have FF := hide (And.intro fa (And.intro fa0 (And.intro fb (And.intro fb0 (And.intro fc fc0)))))
            have sb1 : 0 ≤ s1 ∧ s1 ≤ 1 := by omega
            have sb2 : 0 ≤ s2 ∧ s2 ≤ 2 := by omega
            clear hT hl hva hra hvb hrb hvc hrc hcnt h1size hs1 hs2 hb hba hbb hbc hs3 fa fa0 fb fb0 fc fc0
            have ar := HW3.out.blk List.mem_cons_self
            have r0 : (wr.alloc (.cells #[.string ⟨#[97]⟩, .string ⟨#[98]⟩, .string ⟨#[99]⟩] 9)).cell? ⟨wr.heap.size, 0, none⟩ = some (.string ⟨#[97]⟩) := (ar.cell 0).trans rfl
            have r1 : (wr.alloc (.cells #[.string ⟨#[97]⟩, .string ⟨#[98]⟩, .string ⟨#[99]⟩] 9)).cell? ⟨wr.heap.size, 1, none⟩ = some (.string ⟨#[98]⟩) := (ar.cell 1).trans rfl
            have r2 : (wr.alloc (.cells #[.string ⟨#[97]⟩, .string ⟨#[98]⟩, .string ⟨#[99]⟩] 9)).cell? ⟨wr.heap.size, 2, none⟩ = some (.string ⟨#[99]⟩) := (ar.cell 2).trans rfl
            have RR := hide (And.intro r0 (And.intro r1 r2))
            clear ar r0 r1 r2
            go_wp2_with fail
            obtain ⟨WB, hWB⟩ : ∃ WB, WB = wr.alloc (.cells #[.string ⟨#[97]⟩, .string ⟨#[98]⟩, .string ⟨#[99]⟩] 9) := ⟨_, rfl⟩
            rw [← hWB] at HW3 VA VB VC RR ⊢
            clear hWB
            obtain ⟨r0, r1, r2⟩ := RR.out
            go_loopg [9, 14, 15, 16] 4 (fun q u9 u14 u15 u16 wx => wx = WB ∧ ((u14 = .int .i64 0 ∧ u9 = .int .i64 0 ∧ q = 4) ∨ (u14 = .int .i64 1 ∧ u9 = .int .i64 s1 ∧ q = 3) ∨ (u14 = .int .i64 2 ∧ u9 = .int .i64 s2 ∧ q = 2) ∨ (u14 = .int .i64 3 ∧ u9 = .int .i64 (m : Int) ∧ q = 1)))
            case atStart => exact ⟨rfl, .inl ⟨rfl, rfl, rfl⟩⟩
            case round =>
              obtain ⟨rfl, hc⟩ := hrel
              rcases hc with ⟨rfl, rfl, rfl⟩ | ⟨rfl, rfl, rfl⟩ | ⟨rfl, rfl, rfl⟩ | ⟨rfl, rfl, rfl⟩
              · go_wp2_with fail
                refine VA.out.mono ?_
                rintro e w4 ⟨rfl, rfl⟩
                cases hr : ra with
                | true =>
                  have h1 := FF.out.1 hr
                  subst hr
                  go_wp2_with fail
                  go_roundg 3
                  case measure => omega
                  case rel => exact ⟨rfl, .inr (.inl ⟨rfl, by rw [← h1]; rfl, rfl⟩)⟩
                | false =>
                  have h1 := FF.out.2.1 hr
                  subst hr
                  go_wp2_with fail
                  go_roundg 3
                  case measure => omega
                  case rel => exact ⟨rfl, .inr (.inl ⟨rfl, by rw [h1], rfl⟩)⟩
              · go_wp2_with fail
                refine VB.out.mono ?_
                rintro e w4 ⟨rfl, rfl⟩
                cases hr : rb with
                | true =>
                  have h1 := FF.out.2.2.1 hr
                  have H1 := hide h1
                  subst hr
                  clear h1
                  go_wp2_with fail
                  go_roundg 2
                  case measure => omega
                  case rel => exact ⟨rfl, .inr (.inr (.inl ⟨rfl, by rw [← H1.out, IntWalk.i64_in _ (by omega)], rfl⟩))⟩
                | false =>
                  have h1 := FF.out.2.2.2.1 hr
                  subst hr
                  have H1 := hide h1
                  clear h1
                  go_wp2_with fail
                  go_roundg 2
                  case measure => omega
                  case rel => exact ⟨rfl, .inr (.inr (.inl ⟨rfl, by rw [H1.out], rfl⟩))⟩
              · go_wp2_with fail
                refine VC.out.mono ?_
                rintro e w4 ⟨rfl, rfl⟩
                cases hr : rc with
                | true =>
                  have h1 := FF.out.2.2.2.2.1 hr
                  have H1 := hide h1
                  subst hr
                  clear h1
                  go_wp2_with fail
                  go_roundg 1
                  case measure => omega
                  case rel => exact ⟨rfl, .inr (.inr (.inr ⟨rfl, by rw [← H1.out, IntWalk.i64_in _ (by omega)], rfl⟩))⟩
                | false =>
                  have h1 := FF.out.2.2.2.2.2 hr
                  subst hr
                  have H1 := hide h1
                  clear h1
                  go_wp2_with fail
                  go_roundg 1
                  case measure => omega
                  case rel => exact ⟨rfl, .inr (.inr (.inr ⟨rfl, by rw [H1.out], rfl⟩))⟩
              · go_wp2_with fail
                refine (TX.out _ _ HW3.out.ss).mono ?_
                rintro e w5 ⟨rfl, b5⟩
                have B5 := hide (HW3.out.below b5).ss.bel
                clear b5
                go_wp2_with fail
                go_ret
                exact ⟨rfl, B5.out⟩

end Go.Proofs.Ytfcaneofkdaicaa
