/-
  Chapter 16: Text: walked.
-/
import Derived.Test.YtfcaneofkdaicaaW11
import Derived.IntWalk
namespace Go.Proofs.Ytfcaneofkdaicaa
open Go.RowKit Go.Sort Go.Maps Go.Shelf

theorem reads_str (w : World) (s : ByteArray) (t : TypeId) : Reads (w.alloc (.cells #[.string s] t)) (w.heap.size + 1) 1 (some ⟨w.heap.size, 0, none⟩) 1 [.string s] := by
  refine ⟨rfl, fun _ => ⟨_, rfl, Nat.lt_succ_self _, fun j u hu => ?_⟩⟩
  rw [show (⟨w.heap.size, 0, none⟩ : Addr).add j = ⟨w.heap.size, j, none⟩ from by unfold Addr.add; split <;> simp_all, (Blk.new w t _).cell j]
  exact (List.getElem?_toArray (xs := [Value.string s])).trans hu
theorem str_one (s : ByteArray) : ∀ u ∈ [Value.string s], u.oneCell' = true := by simp [Value.oneCell']
theorem pair_str (acc : List Cm) (kk : List UInt8) : ((⟨kk.toArray⟩ : ByteArray) ++ ⟨#[61]⟩) ++ (valOf acc ⟨kk.toArray⟩).getD ⟨#[]⟩ = ⟨(pairT acc kk).toArray⟩ := by
  apply ByteArray.ext
  apply Array.toList_inj.1
  unfold pairT
  simp [ByteArray.data_append]

theorem joinF (w : World) (base : Nat) (A : Option Addr) (n c : Nat) (xs : List (List UInt8)) (hn : xs.length = n) (h : w.ownsRow base 9 1 (.slice A n c) n (xs.map encStr)) (hN : n ≤ 1000000) (hlen : (Lib.join xs [59]).length ≤ 50000000) :
    Calls Try.prog 30 #[.slice A n c, .string ⟨#[59]⟩] w fun e w' => e = .returned (.string ⟨(Lib.join xs [59]).toArray⟩) ∧ Below w.heap.size w w' := by
  subst hn
  rcases h.2 with ⟨h1, h2⟩ | ⟨g, cap, cur, hv, h1, h2, h3, h4⟩
  · have hx : xs = [] := by
      cases xs with
      | nil => rfl
      | cons x r => simp at h1 h2
    subst hx
    exact (Any.strings_Join_none lay_join joinExtra A c ⟨#[59]⟩ w).mono fun e w' ⟨he, hw⟩ => ⟨he, hw ▸ Below.refl _ _⟩
  · injection hv with e1 e2 e3
    subst e1 e3
    have hd : (xs.map fun x => (⟨x.toArray⟩ : ByteArray)).map (·.data.toList) = xs := by rw [List.map_map]; simp [Function.comp_def]
    have hl : (xs.map fun x => (⟨x.toArray⟩ : ByteArray)).length = xs.length := by simp
    have hJ := Any.strings_Join lay_join joinExtra g 0 c (xs.map fun x => (⟨x.toArray⟩ : ByteArray)) ⟨#[59]⟩ w (fun j x hx => ?_) (Array.getElem?_eq_some_iff.1 h2).1 (by rw [hl]; omega) (by rw [hl]; omega) (by rw [hd]; exact Nat.le_trans hlen (by omega))
    · rw [hd, hl] at hJ
      exact hJ
    · rw [List.getElem?_map, Option.map_eq_some_iff] at hx
      obtain ⟨y, hy, rfl⟩ := hx
      have := h.cells (g := g) rfl j (encStr y) (by rw [List.getElem?_map, hy]; rfl)
      rwa [show (⟨g, 0, none⟩ : Addr).add j = ⟨g, 0 + j, none⟩ from by unfold Addr.add; split <;> simp_all] at this

set_option maxRecDepth 100000 in
set_option maxHeartbeats 4000000 in
theorem text_any {w0 w : World} {F : List Nat} {B bv bl bd : Nat} {acc : List Cm} (h : SS w0 w F B bv bl bd acc) (hlen : acc.length ≤ 1000000) :
    Calls Try.prog 23 #[.pointer (some ⟨B, 0, none⟩)] w fun e w' => e = .returned (.string ⟨(textOf acc).toArray⟩) ∧ Below w.heap.size w w' := by
  have KA := hide (keys_any h hlen)
  have H := hide h
  obtain ⟨ks, hks⟩ : ∃ ks, ks = keysOf acc := ⟨_, rfl⟩
  obtain ⟨n, hn⟩ : ∃ n, n = ks.length := ⟨_, rfl⟩
  have hn1 : n ≤ 1000000 := by rw [hn, hks]; exact Nat.le_trans (keys_len acc) hlen
  have KL : Hid (∀ k, k < n → (ks.getD k []).length ≤ 16) := by
    intro k hk
    have : ks.getD k [] ∈ keysOf acc := by
      rw [← hks]
      have hk' : k < ks.length := by omega
      simp [List.getD, hk']
    exact keys_le h.ok this
  have VL := hide (fun k => valOf_le h.ok k)
  have TL := hide (text_le h.ok hlen)
  have KS := hide hks
  have HN := hide hn
  clear h hlen hks hn
  obtain ⟨i0, hi0, hz0, hz1, hz2⟩ := info_parts str_info
  go_enter Try.func23, Try.ntmps23
  go_wp2_with fail
  refine KA.out.mono ?_
  rintro e w1 ⟨v, rfl, ho, hb⟩
  rw [← KS.out, ← HN.out] at ho
  obtain ⟨A, cA, rfl, hA⟩ := own_slice ho
  have O1 := hide ho
  have B1 := hide hb
  have HA := hide hA
  clear ho hb hA
  go_wp2_with fail
  go_loopg [3, 5, 9] (n + 1) (fun q u3 u5 u9 wr => ∃ (k : Nat) (A3 : Option Addr) (c3 : Nat), u9 = .int .i64 (k : Int) ∧ u3 = .slice A3 k c3 ∧ k ≤ n ∧ q = n + 1 - k ∧ Hid (Below w.heap.size w wr) ∧ Hid (wr.ownsRow w.heap.size 9 1 (.slice A n cA) n (ks.map encStr)) ∧
    Hid (wr.ownsRow w1.heap.size 9 1 (.slice A3 k c3) k ((ks.take k).map fun kk => encStr (pairT acc kk))) ∧ Hid (w1.heap.size ≤ wr.heap.size))
  case atStart => exact ⟨0, none, 0, rfl, rfl, by omega, by omega, B1.out, O1.out, ⟨by simp, .inl ⟨rfl, rfl⟩⟩, Nat.le_refl _⟩
  case round =>
    obtain ⟨k, A3, c3, rfl, rfl, hk, rfl, BR, OK, O3, S3⟩ := hrel
    by_cases hlt : k < n
    · have k1 : (k : Int) < n := by omega
      have k0 : (0 : Int) ≤ k := by omega
      obtain ⟨g, rfl⟩ := HA.out (by omega)
      obtain ⟨kk, hkk⟩ : ∃ kk, kk = ks.getD k [] := ⟨_, rfl⟩
      obtain ⟨K, hK⟩ : ∃ K : ByteArray, K = ⟨kk.toArray⟩ := ⟨_, rfl⟩
      have hc : wr.cell? ⟨g, k, none⟩ = some (.string K) := by
        have hk' : k < ks.length := by have := HN.out; omega
        have := OK.out.cells (g := g) rfl k (encStr kk) (by rw [hkk]; simp [List.getD, hk'])
        rw [show (⟨g, 0, none⟩ : Addr).add k = ⟨g, k, none⟩ from by unfold Addr.add; split <;> simp_all] at this
        rw [hK]
        exact this
      obtain ⟨V, hV⟩ : ∃ V, V = (valOf acc K).getD ⟨#[]⟩ := ⟨_, rfl⟩
      have hKs : K.size ≤ 16 := by
        have := KL.out k hlt
        rw [← hkk] at this
        rw [hK]
        simpa [ByteArray.size] using this
      have hVs : V.size ≤ 32 := by rw [hV]; exact VL.out K
      have HW := hide (H.out.below BR.out)
      have c0 := HW.out.c0
      have lk := HW.out.lookV K (by omega) false
      rw [← hV] at lk
      simp only [Bool.false_eq_true, if_false] at lk
      have j1 : ((K.size : Int) + ((⟨#[61]⟩ : ByteArray).size : Int) > 9223372036854775807) = False := by
        have : (⟨#[61]⟩ : ByteArray).size = 1 := rfl
        rw [this]; simp; omega
      have HK := hide (And.intro hkk (And.intro hK hV))
      clear hkk hK hV
      have add1 : ∀ (W : World), (Op.stringOp .add K ⟨#[61]⟩).run Try.prog W = .ok (.string (K ++ ⟨#[61]⟩)) W := fun W => run_string_add W _ _ (by omega) (by show ((1 : Nat) : Int) ≤ 8388608; omega)
      have hs2 : (K ++ (⟨#[61]⟩ : ByteArray)).size = K.size + 1 := ByteArray.size_append
      obtain ⟨K1, hK1⟩ : ∃ K1, K1 = K ++ (⟨#[61]⟩ : ByteArray) := ⟨_, rfl⟩
      rw [← hK1] at hs2
      rw [← hK1] at add1
      have add2 : ∀ (W : World), (Op.stringOp .add K1 V).run Try.prog W = .ok (.string (K1 ++ V)) W := fun W => run_string_add W _ _ (by omega) (by omega)
      obtain ⟨K2, hK2⟩ : ∃ K2, K2 = K1 ++ V := ⟨_, rfl⟩
      rw [← hK2] at add2
      have HK2 : Hid (Value.string K2 = encStr (pairT acc kk)) := by
        obtain ⟨e1, e2, e3⟩ := HK.out
        rw [hK2, hK1, e3, e2, pair_str]
        rfl
      clear hK1 hK2 hs2 j1
      have RS := hide (reads_str wr K2 9)
      have O3a := hide (own_grown O3.out (below_grown_none ((Gr.refl wr).alloc (.cells #[.string K2] 9)).below) (by cases (Value.slice A3 k c3).ownBlock <;> simp))
      have s3 := S3.out
      have s1 := B1.out.size
      go_wp2_with (at_builtin; go_must (refine wpList_append_any _ rfl (.tmp 13) (.tmp 23) 59 rfl w1.heap.size 9 i0 (.string ⟨#[]⟩) 1 16 Try.underlying59 hi0 hz0 hz1 hz2 rfl (by omega) (.slice A3 k c3) k _ rfl O3a.out (wr.heap.size + 1) (some ⟨wr.heap.size, 0, none⟩) 1 1 [.string K2] rfl RS.out (str_one _) (by simp only [maxLen]; omega) (by omega) (by simp only [World.size_alloc]; omega) ?_); intro v' wa hown hgr hat; have OA := hide hown; have GR := hide hgr; clear hown hgr hat)
      have NX : Hid (∃ A4 c4, v' = .slice A4 (k + 1) c4) := by
        obtain ⟨A4, c4, e, _⟩ := own_slice OA.out
        exact ⟨A4, c4, e⟩
      obtain ⟨A4, c4, rfl⟩ := NX.out
      have hrow : ∀ b, (Value.slice A3 k c3).ownBlock = some b → w1.heap.size ≤ b := fun b hb => (O3.out.lt b hb).1
      have BN : Hid (Below w.heap.size w wa) := (BR.out.alloc BR.out.size _).grown GR.out (by have := BR.out.size; simp only [World.size_alloc]; omega) (fun b hb => by have := hrow b hb; omega)
      have ON : Hid (wa.ownsRow w.heap.size 9 1 (.slice (some ⟨g, 0, none⟩) n cA) n (ks.map encStr)) := by
        refine own_grown (own_grown OK.out (below_grown_none ((Gr.refl wr).alloc (.cells #[.string K2] 9)).below) (by simp [Value.ownBlock])) GR.out (.inr fun e => ?_)
        have h1 := (O1.out.lt g rfl).2
        have h2 := hrow g e.symm
        omega
      have SN : Hid (w1.heap.size ≤ wa.heap.size) := by
        have h1 := GR.out.size
        simp only [World.size_alloc] at h1
        show _ ≤ _
        omega
      have ONN : Hid (wa.ownsRow w1.heap.size 9 1 (.slice A4 (k + 1) c4) (k + 1) ((ks.take (k + 1)).map fun kk => encStr (pairT acc kk))) := by
        have hk' : k < ks.length := by have := HN.out; omega
        have e : (ks.take (k + 1)).map (fun kk => encStr (pairT acc kk)) = (ks.take k).map (fun kk => encStr (pairT acc kk)) ++ [.string K2] := by
          rw [List.take_succ_eq_append_getElem hk', List.map_append, HK2.out, HK.out.1]
          simp [List.getD, hk']
        rw [e]
        exact OA.out
      clear hrow
      go_wp2_with fail
      go_roundg (n + 1 - (k + 1))
      case measure => omega
      case rel => exact ⟨k + 1, A4, c4, by go_num, rfl, by omega, rfl, BN.out, ON.out, ONN.out, SN.out⟩
    · have k1 : ¬ (k : Int) < n := by omega
      obtain rfl : n = k := by omega
      have JN : Hid (Calls Try.prog 30 #[.slice A3 n c3, .string ⟨#[59]⟩] wr fun e w' => e = .returned (.string ⟨(textOf acc).toArray⟩) ∧ Below wr.heap.size wr w') := by
        have h1 := O3.out
        rw [HN.out, List.take_length, ← HN.out] at h1
        have h2 := joinF wr w1.heap.size A3 n c3 (ks.map (pairT acc)) (by rw [List.length_map]; exact HN.out.symm) (by rw [List.map_map]; exact h1) hn1 (by have := TL.out; unfold textOf at this; rw [← KS.out] at this; exact this)
        unfold textOf
        rw [← KS.out]
        exact h2
      go_wp2_with fail
      refine JN.out.mono ?_
      rintro e w2 ⟨rfl, hb⟩
      have B2 := hide (BR.out.trans (hb.mono BR.out.size))
      clear hb
      go_wp2_with fail
      go_ret
      exact ⟨rfl, B2.out⟩

end Go.Proofs.Ytfcaneofkdaicaa
