/-
  Chapter 18: WaitRanks, walked: each has its own rank behind an owner.
-/
import Derived.Test.YtflalllbplcgbaaY
namespace Go.Proofs.Ytflalllbplcgbaa
open Go.RowKit Go.Sort Go.Maps Go.Shelf

def rk (many o i : Nat) : Nat := (i + many - o) % many
theorem rk_lt {many o i : Nat} (h : 0 < many) : rk many o i < many := Nat.mod_lt _ h
theorem rk_ne : ∀ many : Fin 8, ∀ o : Fin 8, ∀ i : Fin 8, ∀ j : Fin 8, 1 ≤ o.val → o.val ≤ many.val → 1 ≤ i.val → i.val ≤ many.val → 1 ≤ j.val → j.val < i.val → rk many.val o.val i.val ≠ rk many.val o.val j.val := by decide +kernel

theorem rankI_rk {many o i : Nat} (h7 : many ≤ 7) (o1 : 1 ≤ o) (o2 : o ≤ many) (i1 : 1 ≤ i) (i2 : i ≤ many) : rankI many i o = (rk many o i : Int) := by
  unfold rankI
  rw [if_neg (by omega), if_neg (by rw [inB_true.2 ⟨by omega, by omega⟩]; simp), if_neg (by rw [inB_true.2 ⟨by omega, by omega⟩]; simp)]
  unfold rk
  have : ((i : Int) - o + many) = ((i + many - o : Nat) : Int) := by omega
  rw [this]
  rfl
theorem rankI_own {many o : Nat} (h7 : many ≤ 7) (o1 : 1 ≤ o) (o2 : o ≤ many) : rankI many o o = 0 := by
  rw [rankI_rk h7 o1 o2 o1 o2]
  unfold rk
  rw [show o + many - o = many by omega, Nat.mod_self]
  rfl
theorem rankI_out {n k o : Int} (h : inB n k = false) : rankI n k o = 0 ∧ rankI n o k = 0 := by
  unfold rankI
  constructor
  · split
    · rfl
    · first | rfl | rw [if_pos h]
  · split
    · rfl
    · split
      · rfl
      · first | rfl | rw [if_pos h]

def tkA (tk : Nat → Bool) : Array Value := ((List.range 8).map fun j => Value.bool (tk j)).toArray
theorem tkA_get (tk : Nat → Bool) (j : Nat) (h : j < 8) : (tkA tk)[j]? = some (.bool (tk j)) := by simp [tkA, h]
theorem tkA_set (tk : Nat → Bool) (j : Nat) (h : j < 8) : (tkA tk).setIfInBounds j (.bool true) = tkA (fun x => if x = j then true else tk x) := by
  apply Array.ext_getElem?
  intro t
  unfold tkA
  simp only [Array.getElem?_setIfInBounds, List.getElem?_toArray, List.getElem?_map, List.size_toArray, List.length_map, List.length_range]
  by_cases ht : t < 8
  · rw [List.getElem?_range ht]
    by_cases e : j = t
    · subst e; simp [ht]
    · have : ¬ t = j := fun h => e h.symm
      simp [e, this]
  · have : ¬ j = t := by omega
    rw [if_neg this, List.getElem?_eq_none (by simp; omega)]
    rfl

theorem rank_at (many o i : Nat) (h7 : many ≤ 7) (o1 : 1 ≤ o) (o2 : o ≤ many) (i1 : 1 ≤ i) (i2 : i ≤ many) (r : Nat) (hr : r = rk many o i) (W : World) :
    Calls Try.prog 13 #[.int .i64 many, .int .i64 i, .int .i64 o] W fun e w' => e = .returned (.int .i64 (r : Int)) ∧ Gr W w' := by
  have h := rank_any many i o W
  rw [rankI_rk h7 o1 o2 i1 i2, ← hr] at h
  exact h
theorem rank_zero (n me o : Int) (h : rankI n me o = 0) (W : World) : Calls Try.prog 13 #[.int .i64 n, .int .i64 me, .int .i64 o] W fun e w' => e = .returned (.int .i64 0) ∧ Gr W w' := by
  have h2 := rank_any n me o W
  rw [h] at h2
  exact h2

set_option maxHeartbeats 4000000 in
theorem ranks_law (n owner who : Int) (w : World) (hn : 0 ≤ n ∧ n ≤ 255) (hw : 0 ≤ owner ∧ owner ≤ 255) :
    Calls Try.prog 8 #[.int .u8 n, .int .u8 owner, .int .i64 who] w fun e w' => e = .returned (.bool true) ∧ Below w.heap.size w w' := by
  obtain ⟨n0, n1⟩ := hn
  obtain ⟨v0, v1⟩ := hw
  obtain ⟨many, hmany⟩ : ∃ many : Nat, 1 + n % 7 = (many : Int) := ⟨(1 + n % 7).toNat, by omega⟩
  have h1 : 1 ≤ many := by omega
  have h7 : many ≤ 7 := by omega
  have hlz : (0 : Int) < many := by omega
  have hm0 := Int.emod_nonneg owner (show (many : Int) ≠ 0 by omega)
  have hm1 := Int.emod_lt_of_pos owner hlz
  obtain ⟨o, ho⟩ : ∃ o : Nat, 1 + owner % (many : Int) = (o : Int) := ⟨(1 + owner % (many : Int)).toNat, by omega⟩
  have o1 : 1 ≤ o := by omega
  have o2 : o ≤ many := by omega
  have hm7 : (many : Int) ≤ 7 := by omega
  go_enter Try.func8, Try.ntmps8
  go_wp2_with fail
  refine (examples_any w).mono ?_
  rintro e w1 ⟨rfl, hb1⟩
  have B1 := hide hb1
  clear hb1
  go_wp2_with fail
  have hblk : Blk (w1.alloc (.cells #[.bool false, .bool false, .bool false, .bool false, .bool false, .bool false, .bool false, .bool false] 63)) w1.heap.size 63 (tkA fun _ => false) := Blk.new _ _ _
  have hb0 := B1.out.alloc B1.out.size (.cells #[.bool false, .bool false, .bool false, .bool false, .bool false, .bool false, .bool false, .bool false] 63)
  obtain ⟨g, hg⟩ : ∃ g, g = w1.heap.size := ⟨_, rfl⟩
  have hgw : w.heap.size ≤ g := by rw [hg]; exact B1.out.size
  rw [← hg] at hblk ⊢
  have GW := hide hgw
  have K0 := hide hblk
  have B2 := hide hb0
  clear hg hblk hb0 hgw B1
  go_loopg [11] (many + 1) (fun q i wr => ∃ (k : Nat) (tk : Nat → Bool), i = .int .i64 (k : Int) ∧ 1 ≤ k ∧ k ≤ many + 1 ∧ q = many + 2 - k ∧ Hid (∀ r, tk r = true ↔ ∃ j, 1 ≤ j ∧ j < k ∧ rk many o j = r) ∧ Hid (Blk wr g 63 (tkA tk)) ∧ Hid (Below w.heap.size w wr))
  case atStart => exact ⟨1, fun _ => false, rfl, by omega, by omega, by omega, by intro r; simp; omega, K0.out, B2.out⟩
  case round =>
    obtain ⟨k, tk, rfl, hk1, hk, rfl, TK, KB, BL⟩ := hrel
    by_cases hlt : k ≤ many
    · have k1 : (k : Int) ≤ many := by omega
      obtain ⟨r, hr⟩ : ∃ r, r = rk many o k := ⟨_, rfl⟩
      have hrm : r < many := by rw [hr]; exact rk_lt (by omega)
      have hnew : tk r = false := by
        cases h : tk r with
        | false => rfl
        | true =>
          obtain ⟨j, j1, j2, j3⟩ := (TK.out r).1 h
          exact absurd (hr.symm.trans j3.symm) (rk_ne ⟨many, by omega⟩ ⟨o, by omega⟩ ⟨k, by omega⟩ ⟨j, by omega⟩ o1 o2 hk1 hlt j1 j2)
      have NEW := hide hnew
      have RR := hide hr
      have HRK := hide (rank_at many o k h7 o1 o2 hk1 hlt r hr)
      clear hnew hr
      have r1 : (r : Int) < many := by omega
      have r0 : (0 : Int) ≤ r := by omega
      have r8 : (r : Int) < 8 := by omega
      go_wp2_with fail
      refine (HRK.out _).mono ?_
      rintro e w3 ⟨rfl, k3⟩
      have KB3 := hide (KB.out.below k3.below KB.out.lt)
      have BL3 := hide (BL.out.trans (k3.below.mono BL.out.size))
      have hc : w3.cell? ⟨g, r, none⟩ = some (.bool false) := by rw [KB3.out.cell r, tkA_get tk r (by omega), NEW.out]
      have hf := KB3.out.frozen r
      clear k3
      go_wp2_with fail
      go_roundg (many + 2 - (k + 1))
      case measure => omega
      case rel =>
        refine ⟨k + 1, fun x => if x = r then true else tk x, by go_num, by omega, by omega, rfl, ?_, ?_, BL3.out.setCell GW.out _⟩
        · show ∀ x, (if x = r then true else tk x) = true ↔ _
          intro x
          by_cases hx : x = r
          · subst hx
            rw [if_pos rfl]
            exact ⟨fun _ => ⟨k, hk1, by omega, RR.out.symm⟩, fun _ => rfl⟩
          · rw [if_neg hx, TK.out x]
            constructor
            · rintro ⟨j, j1, j2, j3⟩
              exact ⟨j, j1, by omega, j3⟩
            · rintro ⟨j, j1, j2, j3⟩
              refine ⟨j, j1, ?_, j3⟩
              rcases Nat.lt_or_ge j k with h | h
              · exact h
              · obtain rfl : j = k := by omega
                exact absurd (j3.symm.trans RR.out.symm) hx
        · show Blk _ g _ _
          rw [← tkA_set tk r (by omega)]
          exact KB3.out.set_ r _
    · have k1 : ¬ (k : Int) ≤ many := by omega
      have HZ := hide (rank_zero many o o (rankI_own h7 o1 o2))
      have HZ1 := hide (rank_zero 0 1 1 rfl)
      have HZ2 := hide (rank_zero 8 2 1 rfl)
      by_cases hin : 1 ≤ who ∧ who ≤ many
      · obtain ⟨i1, i2⟩ := hin
        go_wp2_with fail
        refine (HZ.out _).mono ?_
        rintro e w3 ⟨rfl, k3⟩
        have B3 := hide (BL.out.trans (k3.below.mono BL.out.size))
        clear k3
        go_wp2_with fail
        refine (HZ1.out _).mono ?_
        rintro e w4 ⟨rfl, k4⟩
        have B4 := hide (B3.out.trans (k4.below.mono B3.out.size))
        clear k4
        go_wp2_with fail
        refine (HZ2.out _).mono ?_
        rintro e w5 ⟨rfl, k5⟩
        have B5 := hide (B4.out.trans (k5.below.mono B4.out.size))
        clear k5
        go_wp2_with fail
        go_ret
        exact ⟨rfl, B5.out⟩
      · have hout : inB many who = false := by
          cases h : inB many who with
          | false => rfl
          | true => exact absurd (inB_true.1 h) hin
        have HO1 := hide (rank_zero many who o (rankI_out hout).1)
        have HO2 := hide (rank_zero many o who (rankI_out hout).2)
        have h3 : who < 1 ∨ (1 ≤ who ∧ (many : Int) < who) := by omega
        clear hin hout
        rcases h3 with h3 | ⟨h3, h4⟩
        all_goals
          first
            | (have h5 : ¬ 1 ≤ who := by omega)
            | (have h5 : ¬ who ≤ (many : Int) := by omega)
          go_wp2_with fail
          refine (HO1.out _).mono ?_
          rintro e w6 ⟨rfl, k6⟩
          have B6 := hide (BL.out.trans (k6.below.mono BL.out.size))
          clear k6
          go_wp2_with fail
          refine (HO2.out _).mono ?_
          rintro e w7 ⟨rfl, k7⟩
          have B7 := hide (B6.out.trans (k7.below.mono B6.out.size))
          clear k7
          go_wp2_with fail
          refine (HZ.out _).mono ?_
          rintro e w3 ⟨rfl, k3⟩
          have B3 := hide (B7.out.trans (k3.below.mono B7.out.size))
          clear k3
          go_wp2_with fail
          refine (HZ1.out _).mono ?_
          rintro e w4 ⟨rfl, k4⟩
          have B4 := hide (B3.out.trans (k4.below.mono B3.out.size))
          clear k4
          go_wp2_with fail
          refine (HZ2.out _).mono ?_
          rintro e w5 ⟨rfl, k5⟩
          have B5 := hide (B4.out.trans (k5.below.mono B4.out.size))
          clear k5
          go_wp2_with fail
          go_ret
          exact ⟨rfl, B5.out⟩

end Go.Proofs.Ytflalllbplcgbaa
