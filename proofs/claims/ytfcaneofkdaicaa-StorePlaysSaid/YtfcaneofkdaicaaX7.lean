/-
  Chapter 16: Text, in the document: walked.
-/
import Derived.Test.YtfcaneofkdaicaaX6
import Derived.Test.YtfcaneofkdaicaaL4
namespace Go.Proofs.Ytfcaneofkdaicaa
open Go.RowKit Go.Sort Go.Maps Go.Shelf

set_option maxRecDepth 100000 in
set_option maxHeartbeats 8000000 in
theorem xtext_any {w : World} {base xb : Nat} {VL VR : Value} {acc : List Cm} (h : XR w base xb VL VR acc) (hok : AccOk acc) (hlen : acc.length ≤ 1000) :
    Calls Try.prog 24 #[.pointer (some ⟨xb, 0, none⟩)] w fun e w' => e = .returned (.string ⟨(textOf acc).toArray⟩) ∧ Below w.heap.size w w' := by
  have KA := hide (xkeys_any h hok (by omega))
  have VN : Hid (∀ W, Below w.heap.size w W → ∀ (k v : ByteArray) (r : Bool), (valOf acc k).getD ⟨#[]⟩ = v → (valOf acc k).isSome = r → Calls Try.prog 16 #[.pointer (some ⟨xb, 0, none⟩), .string k] W fun e w' => e = .returned (.tuple #[.string v, .bool r]) ∧ Below W.heap.size W w') :=
    fun W hW k v r hv hr => xvalue_any (h.below hW) hok k (by omega) v r hv hr
  obtain ⟨ks, hks⟩ : ∃ ks, ks = keysOf acc := ⟨_, rfl⟩
  obtain ⟨m, hm⟩ : ∃ m, m = ks.length := ⟨_, rfl⟩
  have hm1 : m ≤ 1000 := by rw [hm, hks]; exact Nat.le_trans (keys_len acc) hlen
  have OK := hide hok
  have KL : Hid (∀ k, k < m → (ks.getD k []) ∈ keysOf acc) := by
    intro k hk
    rw [← hks]
    have hk' : k < ks.length := by omega
    simp [List.getD, hk']
  have KS := hide hks
  have HM := hide hm
  have TN : Hid (∀ k, (textN acc k).length ≤ 50000) := fun k => Nat.le_trans (textN_le hok k) (by omega)
  clear hks hm h hok
  go_enter Try.func24, Try.ntmps24
  go_wp2_with fail
  refine KA.out.mono ?_
  rintro e w3 ⟨v, rfl, ho, hb⟩
  rw [← KS.out, ← HM.out] at ho
  obtain ⟨A3, c3, rfl, hA⟩ := own_slice ho
  have O3 := hide ho
  have H3 := hide hb
  have HA := hide hA
  clear ho hb hA
  go_wp2_with fail
  go_loopg [3, 5] (m + 1) (fun q u3 u5 wr => ∃ (k : Nat) (T : ByteArray), u5 = .int .i64 (k : Int) ∧ u3 = .string T ∧ k ≤ m ∧ q = m + 1 - k ∧ Hid (T = ⟨(textN acc k).toArray⟩) ∧ Hid (Below w.heap.size w wr) ∧
    Hid (wr.ownsRow w.heap.size 9 1 (.slice A3 m c3) m (ks.map encStr)))
  case atStart => exact ⟨0, ⟨#[]⟩, rfl, rfl, by omega, by omega, by show _ = _; rw [textN_zero], H3.out, O3.out⟩
  case round =>
    obtain ⟨k, T, rfl, rfl, hk, rfl, HT, HR, OR⟩ := hrel
    by_cases hlt : k < m
    · have k1 : (k : Int) < m := by omega
      have k0 : (0 : Int) ≤ k := by omega
      obtain ⟨g, rfl⟩ := HA.out (by omega)
      obtain ⟨kk, hkk⟩ : ∃ kk, kk = ks.getD k [] := ⟨_, rfl⟩
      obtain ⟨K, hK⟩ : ∃ K : ByteArray, K = ⟨kk.toArray⟩ := ⟨_, rfl⟩
      have CA : Hid (∀ W : World, W.ownsRow w.heap.size 9 1 (.slice (some ⟨g, 0, none⟩) m c3) m (ks.map encStr) → W.cell? ⟨g, k, none⟩ = some (.string K)) := by
        intro W hW
        rw [hK, hkk]
        exact own_at hW (by have := HM.out; omega)
      have hc : wr.cell? ⟨g, k, none⟩ = some (.string K) := CA.out _ OR.out
      have hmem := KL.out k hlt
      rw [← hkk] at hmem
      obtain ⟨V, hV⟩ : ∃ V, (valOf acc K).getD ⟨#[]⟩ = V := ⟨_, rfl⟩
      have hKs : K.size ≤ 16 := by rw [hK, str_len]; exact keys_le OK.out hmem
      have hVs : V.size ≤ 32 := by rw [← hV]; exact valOf_le OK.out K
      have hsome : (valOf acc K).isSome = true := by rw [hK]; exact key_val hmem
      have VA := hide (VN.out wr HR.out K V true hV hsome)
      have hTs : T.size ≤ 50000 := by rw [HT.out, str_len]; exact TN.out k
      obtain ⟨T1, hT1⟩ : ∃ T1, T1 = T ++ (⟨#[59]⟩ : ByteArray) := ⟨_, rfl⟩
      have hT1s : T1.size = T.size + 1 := by rw [hT1]; exact ByteArray.size_append
      have add1 : ∀ W : World, (Op.stringOp .add T ⟨#[59]⟩).run Try.prog W = .ok (.string T1) W := fun W => by rw [hT1]; exact sum_str T ⟨#[59]⟩ (by omega) (by show (1 : Nat) ≤ _; omega) W
      obtain ⟨T2, hT2⟩ : ∃ T2, T2 = (if k = 0 then T else T1) := ⟨_, rfl⟩
      have hT2s : T2.size ≤ 50001 := by rw [hT2]; split <;> omega
      obtain ⟨T3, hT3⟩ : ∃ T3, T3 = T2 ++ K := ⟨_, rfl⟩
      have hT3s : T3.size ≤ 50020 := by rw [hT3, ByteArray.size_append]; omega
      have add2 : ∀ W : World, (Op.stringOp .add T2 K).run Try.prog W = .ok (.string T3) W := fun W => by rw [hT3]; exact sum_str T2 K (by omega) (by omega) W
      obtain ⟨T4, hT4⟩ : ∃ T4, T4 = T3 ++ (⟨#[61]⟩ : ByteArray) := ⟨_, rfl⟩
      have hT4s : T4.size ≤ 50021 := by rw [hT4, ByteArray.size_append]; show T3.size + 1 ≤ _; omega
      have add3 : ∀ W : World, (Op.stringOp .add T3 ⟨#[61]⟩).run Try.prog W = .ok (.string T4) W := fun W => by rw [hT4]; exact sum_str T3 ⟨#[61]⟩ (by omega) (by show (1 : Nat) ≤ _; omega) W
      obtain ⟨T5, hT5⟩ : ∃ T5, T5 = T4 ++ V := ⟨_, rfl⟩
      have add4 : ∀ W : World, (Op.stringOp .add T4 V).run Try.prog W = .ok (.string T5) W := fun W => by rw [hT5]; exact sum_str T4 V (by omega) (by omega) W
      have HTN : Hid (T5 = ⟨(textN acc (k + 1)).toArray⟩) := by
        have hk' : k < (keysOf acc).length := by have := HM.out; have := KS.out; rw [← this]; omega
        show _ = _
        rw [textN_succ acc hk', ← KS.out, ← hkk, hT5, hT4, hT3, hT2, hT1, HT.out, hK, ← hV, hK]
        unfold pairT
        by_cases h0 : k = 0
        · subst h0
          rw [if_pos rfl, if_pos rfl, textN_zero]
          apply ByteArray.ext
          apply Array.toList_inj.1
          simp [ByteArray.data_append]
        · rw [if_neg h0, if_neg h0]
          apply ByteArray.ext
          apply Array.toList_inj.1
          simp [ByteArray.data_append]
      clear hT5 hT4 hT3 hT1 hT1s hT2s hT3s hT4s hV hmem hsome hkk hKs hVs hTs hK
      by_cases h0 : k = 0
      · rw [if_pos h0] at hT2
        subst hT2
        have kz : ¬ (0 : Int) < (k : Int) := by omega
        have kz3 : ¬ 0 < k := by omega
        clear h0
        go_wp2_with fail
        refine VA.out.mono ?_
        rintro e w4 ⟨rfl, g4⟩
        have H4 := hide (HR.out.trans (g4.mono HR.out.size))
        have O4 := hide (own_below OR.out g4)
        have hc := CA.out _ O4.out
        clear g4
        go_wp2_with fail
        go_roundg (m + 1 - (k + 1))
        case measure => omega
        case rel => exact ⟨k + 1, T5, by go_num, rfl, by omega, rfl, HTN.out, H4.out, O4.out⟩
      · rw [if_neg h0] at hT2
        subst hT2
        have kz : (0 : Int) < (k : Int) := by omega
        have kz3 : 0 < k := by omega
        clear h0
        go_wp2_with fail
        refine VA.out.mono ?_
        rintro e w4 ⟨rfl, g4⟩
        have H4 := hide (HR.out.trans (g4.mono HR.out.size))
        have O4 := hide (own_below OR.out g4)
        have hc := CA.out _ O4.out
        clear g4
        go_wp2_with fail
        go_roundg (m + 1 - (k + 1))
        case measure => omega
        case rel => exact ⟨k + 1, T5, by go_num, rfl, by omega, rfl, HTN.out, H4.out, O4.out⟩
    · obtain rfl : m = k := by omega
      have k1 : ¬ (m : Int) < m := by omega
      have hT : T = ⟨(textOf acc).toArray⟩ := by
        have h1 := HT.out
        rw [show textN acc m = textOf acc from by rw [HM.out, KS.out]; exact textN_all acc] at h1
        exact h1
      go_wp2_with fail
      go_ret
      exact ⟨rfl, HR.out⟩

end Go.Proofs.Ytfcaneofkdaicaa
