/-
  Chapter 16: Keys, in the document: walked.
-/
import Derived.Test.YtfcaneofkdaicaaX5
import Derived.Test.YtfcaneofkdaicaaP3
import Derived.Shelf.SlSortCmp.QuietGrown
namespace Go.Proofs.Ytfcaneofkdaicaa
open Go.RowKit Go.Sort Go.Maps Go.Shelf

theorem enc_key (k : ByteArray) : encStr k.data.toList = .string k := rfl
theorem reads_take {w : World} {B n k : Nat} {A : Option Addr} {xs : List Value} (h : Reads w B 1 A n xs) (hk : k ≤ n) : Reads w B 1 A k (xs.take k) := by
  refine ⟨by rw [List.length_take, h.1]; omega, fun hn => ?_⟩
  obtain ⟨ad, e, hb, hc⟩ := h.2 (by omega)
  refine ⟨ad, e, hb, fun j u hu => hc j u ?_⟩
  rw [List.getElem?_take] at hu
  split at hu
  · exact hu
  · cases hu
theorem reads_drop {w : World} {B n k g : Nat} {xs : List Value} (h : Reads w B 1 (some ⟨g, 0, none⟩) n xs) (hk : k ≤ n) : Reads w B 1 (some ⟨g, k, none⟩) (n - k) (xs.drop k) := by
  refine ⟨by rw [List.length_drop, h.1]; omega, fun hn => ?_⟩
  obtain ⟨ad, e, hb, hc⟩ := h.2 (by omega)
  injection e with e
  subst e
  refine ⟨_, rfl, hb, fun j u hu => ?_⟩
  rw [List.getElem?_drop] at hu
  have := hc (k + j) u hu
  rw [add_row] at this ⊢
  rw [Nat.zero_add] at this
  exact this
theorem strs_one (l : List Bs) : ∀ u ∈ l.map encStr, u.oneCell' = true := by
  intro u hu
  obtain ⟨x, _, rfl⟩ := List.mem_map.1 hu
  rfl
theorem own_at {w : World} {base m g c : Nat} {t : TypeId} {xs : List Bs} (h : w.ownsRow base t 1 (.slice (some ⟨g, 0, none⟩) m c) m (xs.map encStr)) {j : Nat} (hj : j < xs.length) : w.cell? ⟨g, j, none⟩ = some (.string ⟨(xs.getD j []).toArray⟩) := by
  have := h.cells (g := g) rfl j (encStr (xs.getD j [])) (by rw [List.getElem?_map, List.getElem?_eq_getElem hj, show xs.getD j [] = xs[j] from by simp only [List.getD, List.getElem?_eq_getElem hj, Option.getD_some]]; rfl)
  rw [add_row, Nat.zero_add] at this
  exact this
theorem own_cap {w : World} {base m g c : Nat} {t : TypeId} {xs : List Value} (h : w.ownsRow base t 1 (.slice (some ⟨g, 0, none⟩) m c) m xs) : m ≤ c := by
  rcases h.2 with ⟨h0, _⟩ | ⟨g', cap', cur, hv, hb, hg, hc, hm, hs, ht⟩
  · cases h0
  · injection hv with _ _ h3
    omega
theorem own_none {w : World} {base c : Nat} {A : Option Addr} {t : TypeId} {xs : List Value} (h : w.ownsRow base t 1 (.slice A 0 c) 0 xs) : (A = none ∧ c = 0) ∨ ∃ g, A = some ⟨g, 0, none⟩ := by
  rcases h.2 with ⟨h0, _⟩ | ⟨g', cap', cur, hv, hb, hg, hc, hm, hs, ht⟩
  · injection h0 with h1 _ h3
    exact .inl ⟨h1, h3⟩
  · injection hv with h1 _ _
    exact .inr ⟨g', h1⟩
theorem own_ne {w w' : World} {b b2 s s' n n' : Nat} {e e' : TypeId} {v v' : Value} {xs xs' : List Value} (h : w.ownsRow b e s v n xs) (k : w'.ownsRow b2 e' s' v' n' xs') (hb : w.heap.size ≤ b2) : v.ownBlock = none ∨ v.ownBlock ≠ v'.ownBlock := by
  cases hv : v.ownBlock with
  | none => exact .inl rfl
  | some q =>
    refine .inr fun e => ?_
    have h1 := (own_ge h q hv).2
    have h2 := (own_ge k q e.symm).1
    omega
theorem less_of {X K : ByteArray} {r : Bool} (h : decide (X.data.toList < K.data.toList) = r) : Op.bytesLess X.toList K.toList = r := by
  rw [bytesLess_eq, Go.Lib.toList_data, Go.Lib.toList_data]
  exact h
theorem eq_of {X K : ByteArray} {r : Bool} (h : decide (X.data.toList = K.data.toList) = r) : (X.toList == K.toList) = r := by
  rw [Go.Lib.toList_data, Go.Lib.toList_data, ← h, Bool.eq_iff_iff]
  simp

set_option maxRecDepth 100000 in
set_option maxHeartbeats 8000000 in
theorem xkeys_any {w : World} {base xb : Nat} {VL VR : Value} {acc : List Cm} (h : XR w base xb VL VR acc) (hok : AccOk acc) (hlen : acc.length ≤ 1000000) :
    Calls Try.prog 26 #[.pointer (some ⟨xb, 0, none⟩)] w (Keyed' w acc) := by
  obtain ⟨A, cL, rfl, _⟩ := h.lrow
  obtain ⟨n, hn⟩ : ∃ n, n = acc.length := ⟨_, rfl⟩
  have ROW : Hid (∀ W, Below w.heap.size w W → W.cell? ⟨xb, 0, none⟩ = some (.slice A n cL) ∧ xb < W.heap.size ∧ ∀ j x, acc[j]? = some x → ∃ g, A = some ⟨g, 0, none⟩ ∧ g < w.heap.size ∧ W.cell? ⟨g, j * 5 + 3, none⟩ = some (.string x.k)) := by
    intro W hW
    have hx := h.below hW
    obtain ⟨A', c', e, hr⟩ := h.lrow
    injection e with e1 e2 e3
    subst e1 e3
    refine ⟨by rw [hn]; exact (hx.blk.cell 0).trans rfl, hx.blk.lt, fun j x hj => ?_⟩
    obtain ⟨g, hA, hg, c0, c1, c2, c3, c4⟩ := hr j x hj
    exact ⟨g, hA, hg, (hW.cell (p := ⟨g, j * 5 + 3, none⟩) hg).trans c3⟩
  have VN : Hid (∀ W, Below w.heap.size w W → ∀ (k v : ByteArray) (r : Bool), (valOf acc k).getD ⟨#[]⟩ = v → (valOf acc k).isSome = r → Calls Try.prog 16 #[.pointer (some ⟨xb, 0, none⟩), .string k] W fun e w' => e = .returned (.tuple #[.string v, .bool r]) ∧ Below W.heap.size W w') :=
    fun W hW k v r hv hr => xvalue_any (h.below hW) hok k hlen v r hv hr
  have HN := hide hn
  have hn1 : n ≤ 1000000 := by omega
  obtain ⟨i0, hi0, hz0, hz1, hz2⟩ := info_parts str_info
  clear h hn hlen hok
  go_enter Try.func26, Try.ntmps26
  go_wp2_with fail
  go_loopg [3, 4] (n + 1) (fun q u3 u wr => ∃ (i : Nat) (A2 : Option Addr) (m c2 : Nat) (xs : List Bs), u = .int .i64 (i : Int) ∧ u3 = .slice A2 m c2 ∧ i ≤ n ∧ q = n + 1 - i ∧ Hid (KeysTo acc i xs ∧ m = xs.length) ∧ Hid (wr.ownsRow w.heap.size 9 1 (.slice A2 m c2) m (xs.map encStr)) ∧ Hid (Below w.heap.size w wr))
  case atStart => exact ⟨0, none, 0, 0, [], rfl, rfl, Nat.zero_le _, rfl, ⟨KeysTo.nil acc, rfl⟩, World.ownsRow_nil _ _ _ _, Below.refl _ _⟩
  case round =>
    obtain ⟨i, A2, m, c2, xs, rfl, rfl, hi, rfl, HK, HO, HB⟩ := hrel
    by_cases hlt : i < n
    · have hget : acc[i]? = some (acc[i]'(by rw [← HN.out]; exact hlt)) := List.getElem?_eq_getElem _
      obtain ⟨x, hx⟩ : ∃ x, x = (acc[i]'(by rw [← HN.out]; exact hlt)) := ⟨_, rfl⟩
      rw [← hx] at hget
      obtain ⟨d0, _, hr⟩ := ROW.out _ HB.out
      obtain ⟨g, rfl, hg, e3⟩ := hr i x hget
      obtain ⟨K, hK⟩ : ∃ K, x.k = K := ⟨_, rfl⟩
      rw [hK] at e3
      obtain ⟨v0, hv0⟩ : ∃ v0, (valOf acc K).getD ⟨#[]⟩ = v0 := ⟨_, rfl⟩
      obtain ⟨r0, hr0⟩ : ∃ r0, (valOf acc K).isSome = r0 := ⟨_, rfl⟩
      have VV := hide (VN.out _ HB.out K v0 r0 hv0 hr0)
      have RAT : Hid (∀ W, Below w.heap.size w W → W.cell? ⟨xb, 0, none⟩ = some (.slice (some ⟨g, 0, none⟩) n cL) ∧ W.cell? ⟨g, i * 5 + 3, none⟩ = some (.string K)) := by
        intro W hW
        obtain ⟨d0, _, hr⟩ := ROW.out _ hW
        obtain ⟨g', e, _, e3⟩ := hr i x hget
        injection e with e
        injection e with e _ _
        subst e
        exact ⟨d0, by rw [← hK]; exact e3⟩
      have SKIP : Hid (r0 = false ∨ K.data.toList ∈ xs → KeysTo acc (i + 1) xs) := fun hs => HK.out.1.skip hget (by rw [hK, hr0]; exact hs)
      have PUT : Hid (r0 = true → ∀ {a : Nat}, a ≤ xs.length → (∀ j, j < a → (xs.getD j []) < K.data.toList) → (a < xs.length → ¬ (xs.getD a []) < K.data.toList ∧ xs.getD a [] ≠ K.data.toList) → KeysTo acc (i + 1) (xs.take a ++ [K.data.toList] ++ xs.drop a)) := by
        intro hs a h1 h2 h3
        have := HK.out.1.put hget (by rw [hK, hr0]; exact hs) h1 (by rw [hK]; exact h2) (by rw [hK]; exact h3)
        rw [hK] at this
        exact this
      have i1 : (i : Int) < n := by omega
      have i0' : (0 : Int) ≤ i := by omega
      have hm : m ≤ 1000000 := by have := HK.out.1.len; have := HK.out.2; omega
      have HML := hide (show m = xs.length from HK.out.2)
      clear hx hget hr hv0 hr0 hK
      go_wp2_with fail
      refine VV.out.mono ?_
      rintro e w3 ⟨rfl, g3⟩
      have B3 := hide (HB.out.trans (g3.mono HB.out.size))
      have O3 := hide (own_below HO.out g3)
      clear g3 d0 e3
      go_wp2_with fail
      go_loopg [7] (m + 1) (fun q u w4 => ∃ (a : Nat), u = .int .i64 (a : Int) ∧ a ≤ m ∧ q = m + 1 - a ∧ Hid (∀ j, j < a → (xs.getD j []) < K.data.toList) ∧ Hid (w4.ownsRow w.heap.size 9 1 (.slice A2 m c2) m (xs.map encStr)) ∧ Hid (Below w.heap.size w w4))
      case atStart => exact ⟨0, rfl, Nat.zero_le _, rfl, fun j hj => absurd hj (by omega), O3.out, B3.out⟩
      case round =>
        obtain ⟨a, rfl, ha, rfl, HA, O4, B4⟩ := hrel
        obtain ⟨d0, e3⟩ := RAT.out _ B4.out
        have a0 : (0 : Int) ≤ a := by omega
        have a2 : IntKind.i64.wrap ((a : Int) + 1) = (a : Int) + 1 := IntWalk.i64_in _ (by omega)
        have xl := World.block_lt_of_cell? wr _ d0
        have hmix := mixed
        by_cases hal : a < m
        · obtain ⟨A3, c3, e, hA3⟩ := own_slice O4.out
          injection e with e1 _ e2
          subst e1 e2
          obtain ⟨g2, rfl⟩ := hA3 (by omega)
          have a1 : (a : Int) < m := by omega
          have hml := HML.out
          have kz : decide ((a : Int) < (m : Int)) = true := decide_eq_true a1
          have kz2 : decide (a < m) = true := decide_eq_true hal
          have hcap := own_cap O4.out
          have cX := own_at O4.out (j := a) (by omega)
          obtain ⟨X, hX⟩ : ∃ X : ByteArray, X = ⟨(xs.getD a []).toArray⟩ := ⟨_, rfl⟩
          have hXd : X.data.toList = xs.getD a [] := by rw [hX]
          rw [← hX] at cX
          by_cases hls : xs.getD a [] < K.data.toList
          · have ls : Op.bytesLess X.toList K.toList = true := less_of (by rw [hXd]; exact decide_eq_true hls)
            have HA2 : Hid (∀ j, j < a + 1 → (xs.getD j []) < K.data.toList) := by
              intro j hj
              rcases Nat.lt_or_ge j a with h | h
              · exact HA.out j h
              · rw [show j = a by omega]; exact hls
            clear hls hXd hX hml
            go_wp2_with fail
            go_quiet (fail)
            go_wp2_with fail
            go_roundg (m + 1 - (a + 1))
            case measure => omega
            case rel => exact ⟨a + 1, by go_num, by omega, rfl, HA2.out, own_gr O4.out ((Gr.refl _).drewN _), B4.out.trans ((Gr.below ((Gr.refl _).drewN _)).mono B4.out.size)⟩
          · have ls : Op.bytesLess X.toList K.toList = false := less_of (by rw [hXd]; exact decide_eq_false hls)
            cases r0 with
            | false =>
              have SK := hide (SKIP.out (.inl rfl))
              obtain ⟨bq, hbq⟩ : ∃ bq, (X.toList == K.toList) = bq := ⟨_, rfl⟩
              clear hls hXd hX hml
              go_wp2_with fail
              go_quiet (fail)
              go_wp2_with fail
              go_quiet (fail)
              go_wp2_with fail
              go_roundg (n + 1 - (i + 1))
              case measure => omega
              case rel => exact ⟨i + 1, _, _, _, xs, by go_num, rfl, by omega, rfl, ⟨SK.out, HK.out.2⟩, by first | exact own_gr O4.out ((Gr.refl _).drewN _) | exact own_gr O4.out ((Gr.refl _).drewN _), by first | exact B4.out.trans ((Gr.below ((Gr.refl _).drewN _)).mono B4.out.size) | exact B4.out.trans ((Gr.below (((Gr.refl _).drewN _).drewN _)).mono B4.out.size)⟩
            | true =>
              by_cases heq : xs.getD a [] = K.data.toList
              · have hbq : (X.toList == K.toList) = true := eq_of (by rw [hXd]; exact decide_eq_true heq)
                have SK := hide (SKIP.out (.inr (by
                  rw [← heq]
                  have : a < xs.length := by omega
                  simp [List.getD, this])))
                clear hls hXd hX heq hml
                go_wp2_with fail
                go_quiet (fail)
                go_wp2_with fail
                go_quiet (fail)
                go_wp2_with fail
                go_roundg (n + 1 - (i + 1))
                case measure => omega
                case rel => exact ⟨i + 1, _, _, _, xs, by go_num, rfl, by omega, rfl, ⟨SK.out, HK.out.2⟩, by first | exact own_gr O4.out ((Gr.refl _).drewN _) | exact own_gr O4.out ((Gr.refl _).drewN _), by first | exact B4.out.trans ((Gr.below ((Gr.refl _).drewN _)).mono B4.out.size) | exact B4.out.trans ((Gr.below (((Gr.refl _).drewN _).drewN _)).mono B4.out.size)⟩
              · have hbq : (X.toList == K.toList) = false := eq_of (by rw [hXd]; exact decide_eq_false heq)
                have SK := hide (PUT.out rfl (a := a) (by omega) HA.out (fun _ => ⟨hls, heq⟩))
                clear hls hXd hX heq hml
                have ONE1 := hide (show ∀ u ∈ (xs.map encStr).take a, u.oneCell' = true from fun u hu => strs_one xs u (List.mem_of_mem_take hu))
                have ONE3 := hide (show ∀ u ∈ (xs.map encStr).drop a, u.oneCell' = true from fun u hu => strs_one xs u (List.mem_of_mem_drop hu))
                have RD1 : Hid (Reads wr wr.heap.size 1 (some ⟨g2, 0, none⟩) a ((xs.map encStr).take a)) := reads_take (Reads.of_own O4.out) ha
                have RD3 : Hid (∀ W, W.ownsRow w.heap.size 9 1 (.slice (some ⟨g2, 0, none⟩) m c2) m (xs.map encStr) → Reads W W.heap.size 1 (some ⟨g2, a, none⟩) (m - a) ((xs.map encStr).drop a)) := fun W hW => reads_drop (Reads.of_own hW) (by omega)
                have g4 : (a : Int) ≤ c2 := by omega
                have g5 : (a : Int) ≤ m := by omega
                have g6 : ¬ c2 = a := by omega
                go_wp2_with fail
                go_quiet (fail)
                go_wp2_with fail
                go_quiet (fail)
                go_wp2_with (first | (at_builtin; refine wpList_append_any _ rfl (.tmp 75) (.tmp 78) 59 rfl wr.heap.size 9 i0 _ 1 16 Try.underlying59 hi0 hz0 hz1 hz2 rfl (by omega) (.slice none 0 0) 0 [] rfl (World.ownsRow_nil _ _ _ _) wr.heap.size _ a _ ((xs.map encStr).take a) rfl RD1.out ONE1.out (by simp only [maxLen]; omega) (by omega) (Nat.le_refl _) ?_; intro v1 w5 hown0 hgr1 hv1; have hown1 : w5.ownsRow wr.heap.size 9 1 v1 a ((xs.map encStr).take a) := (by simpa using hown0); obtain ⟨A5, c5, rfl, _⟩ := own_slice hown1; have L5 := hide (grown_none_below (show wr.grownBy w5 none from ⟨hgr1.os, hgr1.tape, hgr1.output, hgr1.size, hgr1.block⟩)); have B5 := hide (B4.out.trans (L5.out.mono B4.out.size)); have O5 := hide (own_below O4.out L5.out); obtain ⟨d0, e3⟩ := RAT.out _ B5.out; have V5 := hide hown1; have V5a := hide (own_gr hown1 ((Gr.refl w5).alloc (.cells #[.string K] 9))); have R5 := hide (reads_str w5 K 9); have P5 := hide (show wr.heap.size ≤ (w5.alloc (.cells #[.string K] 9)).heap.size from (by simp; have := L5.out.size; omega)); clear hown0 hown1 hgr1 hv1) | (at_builtin; refine wpList_append_any _ rfl (.tmp 80) (.tmp 89) 59 rfl wr.heap.size 9 i0 _ 1 16 Try.underlying59 hi0 hz0 hz1 hz2 rfl (by omega) (.slice A5 a c5) a _ rfl V5a.out _ _ 1 1 [.string K] rfl R5.out (str_one K) (by simp only [maxLen]; omega) (by omega) P5.out ?_; intro v2 w6 hown0 hgr2 hv2; obtain ⟨A6, c6, rfl, _⟩ := own_slice hown0; have V6 := hide hown0; have B6 := hide ((B5.out.trans ((Gr.below ((Gr.refl w5).alloc (.cells #[.string K] 9))).mono B5.out.size)).trans (grown_below hgr2 (fun q hq => Nat.le_trans B4.out.size (own_ge V5.out q hq).1) (Nat.le_trans B4.out.size P5.out))); have O6 := hide (own_grown (own_gr O5.out ((Gr.refl w5).alloc (.cells #[.string K] 9))) hgr2 (own_ne O4.out V5.out (Nat.le_refl _))); have S6 := hide (Nat.le_trans P5.out hgr2.size); clear hown0 hgr2 hv2) | (at_builtin; refine wpList_append_any _ rfl (.tmp 91) (.tmp 94) 59 rfl wr.heap.size 9 i0 _ 1 16 Try.underlying59 hi0 hz0 hz1 hz2 rfl (by omega) (.slice A6 (a + 1) c6) (a + 1) _ rfl V6.out _ _ _ _ ((xs.map encStr).drop a) rfl (RD3.out _ O6.out) ONE3.out (by simp only [maxLen]; omega) (by omega) S6.out ?_; intro v3 w7 hown0 hgr3 hv3; obtain ⟨A7, c7, rfl, _⟩ := own_slice hown0; have V7 := hide hown0; have B7 := hide (B6.out.trans (grown_below hgr3 (fun q hq => Nat.le_trans B4.out.size (own_ge V6.out q hq).1) (Nat.le_trans B4.out.size S6.out))); clear hown0 hgr3 hv3))
                go_roundg (n + 1 - (i + 1))
                case measure => omega
                case rel =>
                  refine ⟨i + 1, A7, _, c7, xs.take a ++ [K.data.toList] ++ xs.drop a, by go_num, rfl, by omega, rfl, ⟨SK.out, ?_⟩, ?_, B7.out⟩
                  · simp only [List.length_append, List.length_take, List.length_drop, List.length_singleton]
                    have := HML.out
                    omega
                  · have h1 := own_base V7.out B4.out.size
                    rw [List.map_append, List.map_append, List.map_take, List.map_drop]
                    exact h1
        · have ham : a = m := by omega
          subst ham
          have hml := HML.out
          have a1 : ¬ (a : Int) < a := by omega
          cases r0 with
          | false =>
            have SK := hide (SKIP.out (.inl rfl))
            clear hml
            go_wp2_with fail
            go_quiet (fail)
            go_wp2_with fail
            go_quiet (fail)
            go_wp2_with fail
            go_roundg (n + 1 - (i + 1))
            case measure => omega
            case rel => exact ⟨i + 1, _, _, _, xs, by go_num, rfl, by omega, rfl, ⟨SK.out, HK.out.2⟩, by first | exact own_gr O4.out ((Gr.refl _).drewN _) | exact own_gr O4.out ((Gr.refl _).drewN _), by first | exact B4.out.trans ((Gr.below ((Gr.refl _).drewN _)).mono B4.out.size) | exact B4.out.trans ((Gr.below (((Gr.refl _).drewN _).drewN _)).mono B4.out.size)⟩
          | true =>
            have SK := hide (PUT.out rfl (a := a) (by omega) HA.out (fun h => absurd h (by omega)))
            have RD3 : Hid (∀ (W : World) (A' : Option Addr) (k : Nat), k = 0 → Reads W W.heap.size 1 A' k ((xs.map encStr).drop a)) := by
              rintro W A' k rfl
              refine ⟨?_, fun h => absurd h (by omega)⟩
              rw [List.length_drop, List.length_map]
              omega
            have ONE1 := hide (show ∀ u ∈ (xs.map encStr).take a, u.oneCell' = true from fun u hu => strs_one xs u (List.mem_of_mem_take hu))
            have ONE3 := hide (show ∀ u ∈ (xs.map encStr).drop a, u.oneCell' = true from fun u hu => strs_one xs u (List.mem_of_mem_drop hu))
            have RD1 : Hid (Reads wr wr.heap.size 1 A2 a ((xs.map encStr).take a)) := reads_take (Reads.of_own O4.out) ha
            clear hml
            have hA2 : (A2 = none ∧ a = 0 ∧ c2 = 0) ∨ ∃ g, A2 = some ⟨g, 0, none⟩ := by
              rcases Nat.eq_zero_or_pos a with h0 | h0
              · have h1 := O4.out
                rw [h0] at h1
                rcases own_none h1 with ⟨h2, h3⟩ | h2
                · exact .inl ⟨h2, h0, h3⟩
                · exact .inr h2
              · obtain ⟨A3, c3, e, hA3⟩ := own_slice O4.out
                injection e with e1 _ e2
                obtain ⟨g2, h2⟩ := hA3 h0
                exact .inr ⟨g2, e1.trans h2⟩
            rcases hA2 with ⟨rfl, rfl, rfl⟩ | ⟨g2, rfl⟩
            · have hxs : xs = [] := List.eq_nil_of_length_eq_zero HML.out.symm
              have XS := hide hxs
              clear hxs
              go_wp2_with fail
              go_quiet (fail)
              go_wp2_with fail
              go_quiet (fail)
              go_wp2_with (first | (at_builtin; refine wpList_append_any _ rfl (.tmp 80) (.tmp 89) 59 rfl wr.heap.size 9 i0 _ 1 16 Try.underlying59 hi0 hz0 hz1 hz2 rfl (by omega) (.slice none 0 0) 0 [] rfl (World.ownsRow_nil _ _ _ _) _ _ 1 1 [.string K] rfl (reads_str _ K 9) (str_one K) (by simp only [maxLen]; omega) (by omega) (by simp) ?_; intro v2 w6 hown0 hgr2 hv2; have hown1 : w6.ownsRow wr.heap.size 9 1 v2 1 [.string K] := (by simpa using hown0); obtain ⟨A6, c6, rfl, _⟩ := own_slice hown1; have V6 := hide hown1; have B6 := hide (show Below w.heap.size w w6 from B4.out.trans (((Gr.below (((Gr.refl wr).drewN _).alloc _)).mono B4.out.size).trans ((grown_none_below hgr2).mono (by have := B4.out.size; simp; omega)))); have S6 := hide (show wr.heap.size ≤ w6.heap.size from (by have := hgr2.size; simp at this; omega)); clear hown0 hown1 hgr2 hv2) | (at_builtin; refine wpList_append_any _ rfl (.tmp 91) (.tmp 94) 59 rfl wr.heap.size 9 i0 _ 1 16 Try.underlying59 hi0 hz0 hz1 hz2 rfl (by omega) (.slice A6 1 c6) 1 _ rfl V6.out 0 none 0 0 [] rfl Reads.none_ (by simp) (by simp only [maxLen]; omega) (by omega) S6.out ?_; intro v3 w7 hown0 hgr3 hv3; have hown1 : w7.ownsRow wr.heap.size 9 1 v3 1 [.string K] := (by simpa using hown0); obtain ⟨A7, c7, rfl, _⟩ := own_slice hown1; have V7 := hide hown1; have B7 := hide (B6.out.trans (grown_below hgr3 (fun q hq => Nat.le_trans B4.out.size (own_ge V6.out q hq).1) (Nat.le_trans B4.out.size S6.out))); clear hown0 hown1 hgr3 hv3))
              go_roundg (n + 1 - (i + 1))
              case measure => omega
              case rel =>
                refine ⟨i + 1, A7, 1, c7, xs.take 0 ++ [K.data.toList] ++ xs.drop 0, by go_num, rfl, by omega, rfl, ⟨SK.out, ?_⟩, ?_, B7.out⟩
                · rw [XS.out]; rfl
                · rw [XS.out]
                  exact own_base V7.out B4.out.size
            · have hcap := own_cap O4.out
              have g4 : (a : Int) ≤ c2 := by omega
              rcases Nat.lt_or_ge a c2 with g5 | g5
              · have g6 : ¬ c2 = a := by omega
                clear hcap g5
                go_wp2_with fail
                go_quiet (fail)
                go_wp2_with fail
                go_quiet (fail)
                go_wp2_with (first | (at_builtin; refine wpList_append_any _ rfl (.tmp 75) (.tmp 78) 59 rfl wr.heap.size 9 i0 _ 1 16 Try.underlying59 hi0 hz0 hz1 hz2 rfl (by omega) (.slice none 0 0) 0 [] rfl (World.ownsRow_nil _ _ _ _) wr.heap.size _ a _ ((xs.map encStr).take a) rfl RD1.out ONE1.out (by simp only [maxLen]; omega) (by omega) (Nat.le_refl _) ?_; intro v1 w5 hown0 hgr1 hv1; have hown1 : w5.ownsRow wr.heap.size 9 1 v1 a ((xs.map encStr).take a) := (by simpa using hown0); obtain ⟨A5, c5, rfl, _⟩ := own_slice hown1; have L5 := hide (grown_none_below (show wr.grownBy w5 none from ⟨hgr1.os, hgr1.tape, hgr1.output, hgr1.size, hgr1.block⟩)); have B5 := hide (B4.out.trans (L5.out.mono B4.out.size)); have O5 := hide (own_below O4.out L5.out); obtain ⟨d0, e3⟩ := RAT.out _ B5.out; have V5 := hide hown1; have V5a := hide (own_gr hown1 ((Gr.refl w5).alloc (.cells #[.string K] 9))); have R5 := hide (reads_str w5 K 9); have P5 := hide (show wr.heap.size ≤ (w5.alloc (.cells #[.string K] 9)).heap.size from (by simp; have := L5.out.size; omega)); clear hown0 hown1 hgr1 hv1) | (at_builtin; refine wpList_append_any _ rfl (.tmp 80) (.tmp 89) 59 rfl wr.heap.size 9 i0 _ 1 16 Try.underlying59 hi0 hz0 hz1 hz2 rfl (by omega) (.slice A5 a c5) a _ rfl V5a.out _ _ 1 1 [.string K] rfl R5.out (str_one K) (by simp only [maxLen]; omega) (by omega) P5.out ?_; intro v2 w6 hown0 hgr2 hv2; obtain ⟨A6, c6, rfl, _⟩ := own_slice hown0; have V6 := hide hown0; have B6 := hide ((B5.out.trans ((Gr.below ((Gr.refl w5).alloc (.cells #[.string K] 9))).mono B5.out.size)).trans (grown_below hgr2 (fun q hq => Nat.le_trans B4.out.size (own_ge V5.out q hq).1) (Nat.le_trans B4.out.size P5.out))); have O6 := hide (own_grown (own_gr O5.out ((Gr.refl w5).alloc (.cells #[.string K] 9))) hgr2 (own_ne O4.out V5.out (Nat.le_refl _))); have S6 := hide (Nat.le_trans P5.out hgr2.size); clear hown0 hgr2 hv2) | (at_builtin; refine wpList_append_any _ rfl (.tmp 91) (.tmp 94) 59 rfl wr.heap.size 9 i0 _ 1 16 Try.underlying59 hi0 hz0 hz1 hz2 rfl (by omega) (.slice A6 (a + 1) c6) (a + 1) _ rfl V6.out _ _ _ _ ((xs.map encStr).drop a) rfl (RD3.out _ _ _ (by omega)) ONE3.out (by simp only [maxLen]; omega) (by omega) S6.out ?_; intro v3 w7 hown0 hgr3 hv3; obtain ⟨A7, c7, rfl, _⟩ := own_slice hown0; have V7 := hide hown0; have B7 := hide (B6.out.trans (grown_below hgr3 (fun q hq => Nat.le_trans B4.out.size (own_ge V6.out q hq).1) (Nat.le_trans B4.out.size S6.out))); clear hown0 hgr3 hv3))
                go_roundg (n + 1 - (i + 1))
                case measure => omega
                case rel =>
                  refine ⟨i + 1, A7, _, c7, xs.take a ++ [K.data.toList] ++ xs.drop a, by go_num, rfl, by omega, rfl, ⟨SK.out, ?_⟩, ?_, B7.out⟩
                  · simp only [List.length_append, List.length_take, List.length_drop, List.length_singleton]
                    have := HML.out
                    omega
                  · have h1 := own_base V7.out B4.out.size
                    rw [List.map_append, List.map_append, List.map_take, List.map_drop]
                    exact h1

              · have hca : a = c2 := by omega
                subst hca
                clear hcap g5 g4
                go_wp2_with fail
                go_quiet (fail)
                go_wp2_with fail
                go_quiet (fail)
                go_wp2_with (first | (at_builtin; refine wpList_append_any _ rfl (.tmp 75) (.tmp 78) 59 rfl wr.heap.size 9 i0 _ 1 16 Try.underlying59 hi0 hz0 hz1 hz2 rfl (by omega) (.slice none 0 0) 0 [] rfl (World.ownsRow_nil _ _ _ _) wr.heap.size _ a _ ((xs.map encStr).take a) rfl RD1.out ONE1.out (by simp only [maxLen]; omega) (by omega) (Nat.le_refl _) ?_; intro v1 w5 hown0 hgr1 hv1; have hown1 : w5.ownsRow wr.heap.size 9 1 v1 a ((xs.map encStr).take a) := (by simpa using hown0); obtain ⟨A5, c5, rfl, _⟩ := own_slice hown1; have L5 := hide (grown_none_below (show wr.grownBy w5 none from ⟨hgr1.os, hgr1.tape, hgr1.output, hgr1.size, hgr1.block⟩)); have B5 := hide (B4.out.trans (L5.out.mono B4.out.size)); have O5 := hide (own_below O4.out L5.out); obtain ⟨d0, e3⟩ := RAT.out _ B5.out; have V5 := hide hown1; have V5a := hide (own_gr hown1 ((Gr.refl w5).alloc (.cells #[.string K] 9))); have R5 := hide (reads_str w5 K 9); have P5 := hide (show wr.heap.size ≤ (w5.alloc (.cells #[.string K] 9)).heap.size from (by simp; have := L5.out.size; omega)); clear hown0 hown1 hgr1 hv1) | (at_builtin; refine wpList_append_any _ rfl (.tmp 80) (.tmp 89) 59 rfl wr.heap.size 9 i0 _ 1 16 Try.underlying59 hi0 hz0 hz1 hz2 rfl (by omega) (.slice A5 a c5) a _ rfl V5a.out _ _ 1 1 [.string K] rfl R5.out (str_one K) (by simp only [maxLen]; omega) (by omega) P5.out ?_; intro v2 w6 hown0 hgr2 hv2; obtain ⟨A6, c6, rfl, _⟩ := own_slice hown0; have V6 := hide hown0; have B6 := hide ((B5.out.trans ((Gr.below ((Gr.refl w5).alloc (.cells #[.string K] 9))).mono B5.out.size)).trans (grown_below hgr2 (fun q hq => Nat.le_trans B4.out.size (own_ge V5.out q hq).1) (Nat.le_trans B4.out.size P5.out))); have O6 := hide (own_grown (own_gr O5.out ((Gr.refl w5).alloc (.cells #[.string K] 9))) hgr2 (own_ne O4.out V5.out (Nat.le_refl _))); have S6 := hide (Nat.le_trans P5.out hgr2.size); clear hown0 hgr2 hv2) | (at_builtin; refine wpList_append_any _ rfl (.tmp 91) (.tmp 94) 59 rfl wr.heap.size 9 i0 _ 1 16 Try.underlying59 hi0 hz0 hz1 hz2 rfl (by omega) (.slice A6 (a + 1) c6) (a + 1) _ rfl V6.out _ _ _ _ ((xs.map encStr).drop a) rfl (RD3.out _ _ _ (by omega)) ONE3.out (by simp only [maxLen]; omega) (by omega) S6.out ?_; intro v3 w7 hown0 hgr3 hv3; obtain ⟨A7, c7, rfl, _⟩ := own_slice hown0; have V7 := hide hown0; have B7 := hide (B6.out.trans (grown_below hgr3 (fun q hq => Nat.le_trans B4.out.size (own_ge V6.out q hq).1) (Nat.le_trans B4.out.size S6.out))); clear hown0 hgr3 hv3))
                go_roundg (n + 1 - (i + 1))
                case measure => omega
                case rel =>
                  refine ⟨i + 1, A7, _, c7, xs.take a ++ [K.data.toList] ++ xs.drop a, by go_num, rfl, by omega, rfl, ⟨SK.out, ?_⟩, ?_, B7.out⟩
                  · simp only [List.length_append, List.length_take, List.length_drop, List.length_singleton]
                    have := HML.out
                    omega
                  · have h1 := own_base V7.out B4.out.size
                    rw [List.map_append, List.map_append, List.map_take, List.map_drop]
                    exact h1

    · obtain rfl : i = n := by omega
      have i1 : ¬ (i : Int) < i := by omega
      obtain ⟨d0, _, _⟩ := ROW.out _ HB.out
      go_wp2_with fail
      go_ret
      refine ⟨_, rfl, ?_, HB.out⟩
      obtain ⟨h1, h2⟩ := HK.out
      rw [HN.out] at h1
      rw [← h1.done, ← h2]
      exact HO.out

end Go.Proofs.Ytfcaneofkdaicaa
