/-
  Chapter 18: WaitOnce, walked.
-/
import Derived.Test.YtflalllbplcgbaaL9
import Derived.Deep.DeepCutAuto
namespace Go.Proofs.Ytflalllbplcgbaa
open Go.RowKit Go.Sort Go.Maps Go.Shelf

attribute [local irreducible] Go.wpQuiet

theorem own_gr {w w' : World} {base size n : Nat} {e : TypeId} {v : Value} {xs : List Value} (h : w.ownsRow base e size v n xs) (g : Gr w w') : w'.ownsRow base e size v n xs :=
  h.kept (row := none) (below_grown_none g.below) (by cases v.ownBlock <;> simp)

set_option maxRecDepth 100000 in
set_option maxHeartbeats 8000000 in
theorem once_law (A : Option Addr) (n c : Nat) (zs : List Int) (st : Int) (w : World) (hrd : Reads w w.heap.size 1 A n (zs.map (.int .u8))) (hnc : n ≤ c) (hcm : c ≤ 9223372036854775807) (hzb : ∀ k, 0 ≤ zs.getD k 0 ∧ zs.getD k 0 ≤ 255) (hst : 0 ≤ st ∧ st ≤ 255) :
    Calls Try.prog 5 #[.slice A n c, .int .u8 st] w fun e w' => e = .returned (.bool true) ∧ Below w.heap.size w w' := by
  obtain ⟨L, hLd⟩ : ∃ L, L = 3 :: zs.take 20 := ⟨_, rfl⟩
  have hzl : zs.length = n := by have := hrd.1; simpa using this
  obtain ⟨N, hN⟩ : ∃ N, N = 1 + min n 20 := ⟨_, rfl⟩
  have hN1 : 1 ≤ N := by omega
  have hN2 : N ≤ 21 := by omega
  have hLB : BytesL L := by
    intro k
    rw [hLd]
    cases k with
    | zero => exact ⟨by simp, by simp⟩
    | succ k =>
      rw [List.getD_cons_succ]
      rcases Nat.lt_or_ge k 20 with h | h
      · have : (zs.take 20).getD k 0 = zs.getD k 0 := by simp [List.getD, List.getElem?_take, h]
        rw [this]; exact hzb k
      · have : (zs.take 20).getD k 0 = 0 := by simp [List.getD, List.getElem?_take, Nat.not_lt.2 h]
        rw [this]; omega
  obtain ⟨s, hs⟩ : ∃ s : Nat, st % (N : Int) = (s : Int) := ⟨(st % (N : Int)).toNat, by have := Int.emod_nonneg st (show (N : Int) ≠ 0 by omega); omega⟩
  have hsN : s < N := by have := Int.emod_lt_of_pos st (show (0 : Int) < N by omega); omega
  have hs2 : st.tmod (N : Int) = (s : Int) := by rw [Int.tmod_eq_emod_of_nonneg hst.1]; exact hs
  have RD := hide hrd
  have LD := hide hLd
  have NN := hide hN
  have HLB := hide hLB
  have HS := hide (And.intro hs hs2)
  obtain ⟨st0, st1⟩ := hst
  clear hrd hLd hN hLB hs hs2 hzb
  go_enter Try.func5, Try.ntmps5
  go_wp2_with fail
  refine (examples_any _).mono ?_
  rintro e w1 ⟨rfl, hb1⟩
  have B1 := hide hb1
  clear hb1
  go_wp2_with fail
  refine (new_grown w w1 B1.out).mono ?_
  rintro e w2 ⟨B, b, rfl, hw2, hk2⟩
  have W2 := hide hw2
  have hb2 := hw2.bel
  have R2 := hide (RD.out.below hb2)
  have HB2 := hide hb2.size
  have HBB := hide hw2.blk.lt
  have HBb := hide hw2.map.lt
  clear hw2 hk2 hb2
  obtain ⟨i0, hi0, hz0, hz1, hz2⟩ := info_parts u8_info
  have OW0 := hide (World.ownsRow_lit (base := w2.heap.size) (e := 5) (size := 1) w2 #[.int .u8 3] 1 (Nat.le_refl _) (by simp [maxLen]) rfl)
  obtain ⟨k, hk⟩ : ∃ k, k = (min (n : Int) 20).toNat := ⟨_, rfl⟩
  have hkn : k ≤ n := by omega
  have hk20 : k ≤ 20 := by omega
  have RT : Hid (Reads (w2.alloc (.cells #[.int .u8 3] 5)) w.heap.size 1 A (min (n : Int) 20).toNat ((zs.take k).map (.int .u8))) := by
    rw [← hk, List.map_take]; exact reads_take (R2.out.alloc HB2.out _) hkn
  have hkN : 1 + k = N := by have := NN.out; omega
  have hkz : zs.take k = zs.take 20 := by
    rcases Nat.lt_or_ge n 20 with h | h
    · rw [List.take_of_length_le (by omega), List.take_of_length_le (by omega)]
    · rw [show k = 20 by omega]
  have HK := hide hk
  have HKN := hide (And.intro hkN hkz)
  clear hk hkN hkz
  go_wp2_with (at_builtin; go_must (refine wpList_append_any _ rfl (.tmp 21) (.tmp 26) 58 rfl w2.heap.size 5 i0 (.int .u8 0) 1 1 Try.underlying58 hi0 hz0 hz1 hz2 rfl (by omega) (.slice (some ⟨w2.heap.size, 0, none⟩) 1 1) 1 [.int .u8 3] rfl OW0.out w.heap.size A (min (n : Int) 20).toNat _ ((zs.take k).map (.int .u8)) rfl RT.out (u8_one _) (by simp only [maxLen]; omega) (by omega) (by simp) ?_); intro v1 w4 hown4 hgr4 hat4)
  clear hat4
  have F4 : ∃ gl cl, v1 = .slice (some ⟨gl, 0, none⟩) N cl ∧ w2.heap.size ≤ gl ∧ Hid (w4.ownsRow w2.heap.size 5 1 (.slice (some ⟨gl, 0, none⟩) N cl) N (L.map (.int .u8))) ∧ Hid (Below w2.heap.size w2 w4) := by
    obtain ⟨g, cap, hv, hbg, _⟩ := hown4.form (by omega)
    subst hv
    rw [← HK.out] at hown4 ⊢
    have hl : [Value.int .u8 3] ++ (zs.take k).map (.int .u8) = L.map (.int .u8) := by rw [LD.out, HKN.out.2]; rfl
    rw [hl, HKN.out.1] at hown4
    refine ⟨g, cap, by rw [HKN.out.1], hbg, hown4, ?_⟩
    exact ((Below.refl w2.heap.size w2).alloc (Nat.le_refl _) _).grown hgr4 (by simp) (fun g hg => Nat.le_of_eq (Option.some.inj hg))
  clear hown4 hgr4
  obtain ⟨gl, cl, rfl, hgl, OW4, BE4⟩ := F4
  have W4 := hide (W2.out.below BE4.out)
  clear i0 hi0 hz0 hz1 hz2 OW0 RT
  clear hkn hk20 HK HKN
  go_wp2_with fail
  go_loopg [7] (N + 1) (fun q u7 wr => ∃ i : Nat, u7 = .int .i64 (i : Int) ∧ i ≤ N ∧ q = N + 1 - i ∧ Hid (WS w wr B b (onceL L i)) ∧ Hid (wr.ownsRow w2.heap.size 5 1 (.slice (some ⟨gl, 0, none⟩) N cl) N (L.map (.int .u8))))
  case atStart => exact ⟨0, rfl, by omega, by omega, W4.out, OW4.out⟩
  case round =>
    obtain ⟨i, rfl, hi, rfl, WR, OR⟩ := hrel
    by_cases hlt : i < N
    · have i1 : (i : Int) < N := by omega
      obtain ⟨z, hz⟩ : ∃ z, z = L.getD i 0 := ⟨_, rfl⟩
      have hzb := HLB.out i
      rw [← hz] at hzb
      obtain ⟨z0, z1⟩ := hzb
      have cz := own_byte OR.out hlt
      rw [← hz] at cz
      have SA := hide (once_setAt w wr B b HLB.out i (by omega) (z % 16) (by rw [hz]) WR.out)
      have w1 : IntKind.u64.wrap (z % 16) = z % 16 := IntWalk.u64_in _ (by omega)
      clear hz
      go_wp2_with fail
      refine SA.out.mono ?_
      rintro e w5 ⟨rfl, h5, g5⟩
      have W5 := hide h5
      have O5 := hide (own_far OR.out g5 HBb.out)
      clear h5 g5
      go_wp2_with fail
      go_roundg (N + 1 - (i + 1))
      case measure => omega
      case rel => exact ⟨i + 1, by go_num, by omega, rfl, W5.out, O5.out⟩
    · have i1 : ¬ (i : Int) < N := by omega
      obtain rfl : N = i := by omega
      obtain ⟨ms, mt⟩ := HS.out
      have STP := hide (once_stopAt w wr B b HLB.out s hsN (by omega) WR.out)
      have nz : ¬ (N : Int) = 0 := by omega
      have left0 := hide (left_all HLB.out hsN)
      go_wp2_with fail
      refine STP.out.mono ?_
      rintro e w5 ⟨rfl, h5, g5⟩
      have W5 := hide h5
      have O5 := hide (own_far OR.out g5 HBb.out)
      clear h5 g5 ms mt
      go_wp2_with fail
      go_loopg [10, 11] 17 (fun q u10 u11 wr => ∃ m cnt : Nat, u11 = .int .u64 (m : Int) ∧ u10 = .int .i64 (cnt : Int) ∧ m ≤ 16 ∧ q = 17 - m ∧ Hid (cnt + (leftL L N s (m : Int)).length + 1 = N) ∧ Hid (WS w wr B b (leftL L N s (m : Int))) ∧
        Hid (wr.ownsRow w2.heap.size 5 1 (.slice (some ⟨gl, 0, none⟩) N cl) N (L.map (.int .u8))))
      case atStart => exact ⟨0, 0, rfl, rfl, by omega, rfl, by rw [Nat.zero_add]; exact left0.out, W5.out, O5.out⟩
      case round =>
        obtain ⟨m, cnt, rfl, rfl, hm, rfl, CN, WM, OM⟩ := hrel
        by_cases hlt : m < 16
        · have m1 : (m : Int) < 16 := by omega
          have DU := hide (once_dueAt w _ B b s m hN2 (by have := CN.out; omega) WM.out)
          go_wp2_with fail
          refine DU.out.mono ?_
          rintro e w6 ⟨A6, c6, D, rfl, hd⟩
          have HD := hide hd
          have O6 := hide (own_far OM.out hd.gr HBb.out)
          clear hd
          go_wp2_with fail
          go_loopg [10, 13] (D.length + 1) (fun q u10 u13 wr => ∃ k : Nat, u13 = .int .i64 (k : Int) ∧ u10 = .int .i64 ((cnt + k : Nat) : Int) ∧ k ≤ D.length ∧ q = D.length + 1 - k ∧ Hid (WS w wr B b (leftL L N s ((m + 1 : Nat) : Int))) ∧
            Hid (wr.ownsRow w2.heap.size 5 1 (.slice (some ⟨gl, 0, none⟩) N cl) N (L.map (.int .u8))) ∧ Hid (wr.ownsRow 0 47 4 (.slice A6 D.length c6) D.length (cellsL It.cells D)))
          case atStart => exact ⟨0, rfl, rfl, by omega, by omega, HD.out.ws, O6.out, own_mono HD.out.own (Nat.zero_le _)⟩
          case round =>
            obtain ⟨k2, rfl, rfl, hk2, rfl, WK, OK2, DK⟩ := hrel
            by_cases hlk : k2 < D.length
            · have hbd : cnt + D.length ≤ 21 := by have h1 := CN.out; have h2 := HD.out.cnt; omega
              have k1 : (k2 : Int) < D.length := by omega
              have k0 : (0 : Int) ≤ k2 := by omega
              obtain ⟨gd, xo, xn, i, rfl, hgd, hdk, x0, x1, x2, x3, hiN, hiS, hiM⟩ := HD.out.cells DK.out hlk
              have iN : (i : Int) < N := by omega
              have i0 : (0 : Int) ≤ i := by omega
              have bi := own_byte OK2.out hiN
              obtain ⟨z, hz⟩ : ∃ z, z = L.getD i 0 := ⟨_, rfl⟩
              have hzb := HLB.out i
              rw [← hz] at hzb bi hiM
              clear hz
              obtain ⟨z0, z1⟩ := hzb
              have hgl := (OK2.out.lt gl rfl).2
              have X3 := x3
              go_wp2_with fail
              clear x3
              clear X3
              have y2 := fun (n : Nat) (os : Array Obj) => cell_grown hgd x2 n os
              have yb := fun (n : Nat) (os : Array Obj) => cell_grown hgl bi n os
              have iS : ((i : Int) == (s : Int)) = false := beq_eq_false_iff_ne.2 (by omega)
              have iS2 : (i == s) = false := beq_eq_false_iff_ne.2 (by omega)
              have iL : decide ((N : Int) ≤ (i : Int)) = false := by rw [decide_eq_false_iff_not]; omega
              have iL2 : decide (N ≤ i) = false := by rw [decide_eq_false_iff_not]; omega
              have iZ : decide ((i : Int) < 0) = false := by rw [decide_eq_false_iff_not]; omega
              have zt : z.tmod 16 = (m : Int) := by rw [Int.tmod_eq_emod_of_nonneg z0]; exact hiM
              have mw : IntKind.u64.wrap (m : Int) = (m : Int) := IntWalk.u64_in _ (by omega)
              have mw8 : IntKind.u8.wrap (m : Int) = (m : Int) := IntWalk.u8_in _ (by omega)
              have hmix := mixed
              have c1 : IntKind.i64.wrap ((cnt + k2 : Nat) + 1 : Int) = ((cnt + (k2 + 1) : Nat) : Int) := by have h1 := CN.out; have h2 := HD.out.cnt; rw [IntWalk.i64_in _ (by omega)]; omega
              by_cases hk0 : k2 = 0
              · have kz : decide ((0 : Int) < (k2 : Int)) = false := by rw [decide_eq_false_iff_not]; omega
                have kz2 : decide (0 < k2) = false := by rw [decide_eq_false_iff_not]; omega
                clear hk0
                go_quiet_grown (fail)
                have gq : Gr wr (grow (wr.drewN nq) osq) := ⟨nq, osq, rfl⟩
                have WQ := hide (WK.out.gr gq)
                have OQ := hide (own_gr OK2.out gq)
                have DQ := hide (own_gr DK.out gq)
                clear gq y2 yb
                go_wp2_with fail
                go_roundg (D.length + 1 - (k2 + 1))
                case measure => omega
                case rel => exact ⟨k2 + 1, by go_num, by go_num, by omega, rfl, WQ.out, OQ.out, DQ.out⟩
              · have kz : decide ((0 : Int) < (k2 : Int)) = true := decide_eq_true (by omega)
                have kz2 : decide (0 < k2) = true := decide_eq_true (by omega)
                have kz3 : 0 < k2 := by omega
                obtain ⟨k3, hk3⟩ : ∃ k3, k2 = k3 + 1 := ⟨k2 - 1, by omega⟩
                have hlk3 : k3 < D.length := by omega
                obtain ⟨gd', yo, yn, i', hgd', _, hdk', v0, v1, _, _, _, _, _⟩ := HD.out.cells DK.out hlk3
                obtain rfl : gd = gd' := by injection hgd' with h; injection h
                have hord := HD.out.ord k3 _ _ hdk' (by rw [← hk3]; exact hdk)
                obtain ⟨r, hr⟩ : ∃ r, r = ordZ (yo, yn) (xo, xn) := ⟨_, rfl⟩
                have OA := hide (fun W => order_any yo yn xo xn W)
                rw [← hr] at hord OA
                have r0 : decide (0 ≤ r) = false := by rw [decide_eq_false_iff_not]; exact Int.not_le.2 hord
                have j1 : (k3 : Int) < D.length := by omega
                have j0 : (0 : Int) ≤ k3 := by omega
                have jw : IntKind.i64.wrap ((k2 : Int) - 1) = (k3 : Int) := by rw [IntWalk.i64_in _ (by omega)]; omega
                have q0 := fun (n : Nat) (os : Array Obj) => cell_grown hgd x0 n os
                have q1 := fun (n : Nat) (os : Array Obj) => cell_grown hgd x1 n os
                have p0 := fun (n : Nat) (os : Array Obj) => cell_grown hgd v0 n os
                have p1 := fun (n : Nat) (os : Array Obj) => cell_grown hgd v1 n os
                clear hk0 hk3 hr hord hgd' hdk'
                go_quiet_grown ((go_at_call 25; (with_reducible exact grown_of_gr (OA.out _))))
                clear q0 q1 p0 p1
                have gq : Gr wr (grow (wr.drewN nq) osq) := ⟨nq, osq, rfl⟩
                have WQ := hide (WK.out.gr gq)
                have OQ := hide (own_gr OK2.out gq)
                have DQ := hide (own_gr DK.out gq)
                clear gq y2 yb
                go_wp2_with fail
                go_roundg (D.length + 1 - (k2 + 1))
                case measure => omega
                case rel => exact ⟨k2 + 1, by go_num, by go_num, by omega, rfl, WQ.out, OQ.out, DQ.out⟩
            · have k1 : ¬ (k2 : Int) < D.length := by omega
              obtain rfl : D.length = k2 := by omega
              have CN2 : Hid (cnt + D.length + (leftL L N s ((m + 1 : Nat) : Int)).length + 1 = N) := by have h1 := HD.out.cnt; have h2 := CN.out; show _ = _; omega
              have m2 : IntKind.u64.wrap ((m : Int) + 1) = (m : Int) + 1 := IntWalk.u64_in _ (by omega)
              go_wp2_with fail
              go_roundg (17 - (m + 1))
              case measure => omega
              case rel => exact ⟨m + 1, cnt + D.length, by go_num, rfl, by omega, rfl, CN2.out, WK.out, OK2.out⟩
        · have m1 : ¬ (m : Int) < 16 := by omega
          obtain rfl : m = 16 := by omega
          have hend := left_end HLB.out N s
          have hcn := CN.out
          have hwm := WM.out
          rw [show ((16 : Nat) : Int) = 16 from rfl, hend] at hcn hwm
          have e1 : IntKind.i64.wrap ((N : Int) - 1) = (cnt : Int) := by
            rw [IntWalk.i64_in _ (by omega)]
            simp at hcn
            omega
          have AL := hide (anew_all w wr B b [] 0 rfl (by omega) hwm)
          clear hend hcn hwm
          go_wp2_with fail
          refine AL.out.mono ?_
          rintro e w7 ⟨A7, c7, rfl, h7, _⟩
          have W7 := hide h7.bel
          clear h7
          go_wp2_with fail
          go_ret
          exact ⟨rfl, W7.out⟩

end Go.Proofs.Ytflalllbplcgbaa
