/-
  However far another one is, at most so many are new at one time; taken over and over all are: the law's walk.
-/
import Derived.Test.YtonjpdidbgicgaaL4
namespace Go.Proofs.Ytonjpdidbgicgaa
open Go.RowKit

set_option maxRecDepth 100000 in
set_option maxHeartbeats 4000000 in
theorem takes_law (x y z : Int) (w : World) (x0 : 0 ≤ x) (x1 : x ≤ 65535) (y0 : 0 ≤ y) (y1 : y ≤ 65535) (z0 : 0 ≤ z) (z1 : z ≤ 65535) :
    Calls Try.prog 6 #[.int .u16 x, .int .u16 y, .int .u16 z] w fun e w' => e = .returned (.bool true) ∧ Below w.heap.size w w' := by
  obtain ⟨l, hl⟩ : ∃ l : List Int, l = [x % 300, y % 300, z % 300] := ⟨_, rfl⟩
  have hM : Marks3 l := by
    subst hl
    refine ⟨rfl, fun k => ?_⟩
    match k with
    | 0 => simp; omega
    | 1 => simp; omega
    | 2 => simp; omega
    | k + 3 => simp
  have g0 : l.getD 0 0 = x % 300 := by rw [hl]; rfl
  have g1 : l.getD 1 0 = y % 300 := by rw [hl]; rfl
  have g2 : l.getD 2 0 = z % 300 := by rw [hl]; rfl
  have G0 := hide g0
  have G1 := hide g1
  have G2 := hide g2
  have HL := hide hl
  have HM := hide hM
  clear g0 g1 g2 hl hM
  go_enter Try.func6, Try.ntmps6
  go_wp2_with fail
  refine (examples_any _).mono ?_
  rintro e w1 ⟨rfl, hb1⟩
  go_wp2_with fail
  refine (own_new 3 1 5 w _ (by decide) hb1).mono ?_
  rintro e w2 ⟨b, rfl, h2⟩
  clear hb1
  go_wp2_with fail
  have hlt2 := h2.bt.lt
  have h3 := h2.alloc (.cells (#[Value.int IntKind.i64 (x % 300), Value.int IntKind.i64 (y % 300), Value.int IntKind.i64 (z % 300)] : Array Value) 3)
  have ow : (w2.alloc (.cells (#[Value.int IntKind.i64 (x % 300), Value.int IntKind.i64 (y % 300), Value.int IntKind.i64 (z % 300)] : Array Value) 3)).ownsRow w2.heap.size 3 1 (.slice (some ⟨w2.heap.size, 0, none⟩) 3 3) 3 (ints l) := by
    rw [HL.out]
    exact World.ownsRow_lit w2 (#[Value.int IntKind.i64 (x % 300), Value.int IntKind.i64 (y % 300), Value.int IntKind.i64 (z % 300)] : Array Value) 3 (Nat.le_refl _) (by simp [maxLen]) rfl
  rw [← takes_zero HM.out] at h3
  have H3 := hide h3
  have OW := hide ow
  have hgb : w2.heap.size ≠ b := by omega
  have HGB := hide hgb
  clear h3 ow h2 hlt2 hgb
  go_loopg [11, 12] 7 (fun mm s i wr => ∃ k : Nat, i = .int .i64 k ∧ k ≤ 6 ∧ mm = 7 - k ∧ s = .int .i64 (seenB l k) ∧ Own w wr b (takesSt l k) ∧ wr.ownsRow w2.heap.size 3 1 (.slice (some ⟨w2.heap.size, 0, none⟩) 3 3) 3 (ints l))
  case atStart => exact ⟨0, rfl, by omega, rfl, by simp only [seenB]; have := HM.out.2 0; have := HM.out.2 1; have := HM.out.2 2; exact congrArg _ (by omega), H3.out, OW.out⟩
  case round =>
    obtain ⟨k, rfl, hk, rfl, rfl, ho, hr⟩ := hrel
    have HR := hide hr
    have SB := seen_bound HM.out k
    have SB1 := seen_bound HM.out (k + 1)
    have TL := takes_len HM.out k
    have TB := takes_len_le (l := l) k
    have TO := takes_own HM.out k
    obtain ⟨S, hS⟩ : ∃ S : Int, S = seenB l k := ⟨_, rfl⟩
    rw [← hS] at SB TL ⊢
    have HS := hide hS
    clear hr hS
    by_cases hlt : k < 6
    · have k1 : (k : Int) < 6 := by omega
      have TLH := hide TL
      have TOH := hide TO
      clear TL TO
      go_wp2_with fail
      refine (own_take w _ b _ _ 3 3 l ho (Reads.of_own HR.out) (by intro ad e; injection e with e; subst e; exact HGB.out) (by omega)).mono ?_
      rw [TOH.out]
      rintro e w4 ⟨v, rfl, hv, hgr, ho4⟩
      rw [takes_succ HM.out] at ho4
      have hr4 := HR.out.kept hgr (.inr (by simp only [Value.ownBlock]; intro e; injection e with e; exact HGB.out e))
      obtain ⟨T, hT⟩ : ∃ T : Nat, T = (takeL (takesSt l k) l 3).length := ⟨_, rfl⟩
      have TL2 := TLH.out
      rw [← hT] at TB TL2 hv
      obtain ⟨A, c, rfl⟩ : ∃ A c, v = .slice A T c := by
        rcases hv.2 with ⟨rfl, h0⟩ | ⟨gg, cap, cur, rfl, _⟩
        · exact ⟨_, _, by rw [h0]⟩
        · exact ⟨_, _, rfl⟩
      have O4 := hide ho4
      have R4 := hide hr4
      have T2 := hide TL2
      have t1 : (T : Int) ≤ 192 := by omega
      have t2 : S + (T : Int) ≤ 9223372036854775807 := by omega
      have t3 : 0 ≤ S + (T : Int) := by omega
      clear hv hgr ho4 hr4 hT TL2 ho
      go_wp2_with fail
      go_roundg (7 - (k + 1))
      case measure => omega
      case rel => exact ⟨k + 1, by go_num, by omega, rfl, congrArg _ (by have := T2.out; omega), O4.out, R4.out⟩
    · have k1 : (6 : Int) ≤ k := by omega
      obtain rfl : k = 6 := by omega
      have hn0 := takes_none HM.out
      have TOH := hide TO
      have N0 := hide hn0
      clear TL TO hn0 TB k1 hlt
      have S6 := seen_end HM.out
      rw [← HS.out] at S6
      have S6H := hide S6
      clear S6
      go_wp2_with fail
      refine (own_take w _ b _ _ 3 3 l ho (Reads.of_own HR.out) (by intro ad e; injection e with e; subst e; exact HGB.out) (by omega)).mono ?_
      rw [TOH.out]
      rintro e w4 ⟨v, rfl, hv, hgr, ho4⟩
      rw [takes_succ HM.out] at ho4
      have hr4 := HR.out.kept hgr (.inr (by simp only [Value.ownBlock]; intro e; injection e with e; exact HGB.out e))
      rw [N0.out] at hv
      obtain ⟨A, c, rfl⟩ : ∃ A c, v = .slice A 0 c := by
        rcases hv.2 with ⟨rfl, h0⟩ | ⟨gg, cap, cur, rfl, _⟩
        · exact ⟨_, _, rfl⟩
        · exact ⟨_, _, rfl⟩
      have R4 := hide hr4
      clear hv hgr hr4 ho
      go_wp2_with fail
      refine (own_marks w _ b _ ho4).mono ?_
      rintro e w5 ⟨g2, cap2, rfl, hg2, hm, hb5, h5⟩
      have en : (takesSt l (6 + 1)).n.toNat = 3 := rfl
      rw [en, takes_marks HM.out] at hm
      rw [en]
      have hr5 := R4.out.kept (below_grown_none hb5) (.inr (by simp [Value.ownBlock]))
      have a0 : w5.cell? ⟨w2.heap.size, 0, none⟩ = some (.int .i64 (l.getD 0 0)) := by rw [hr5.cellAt 0 (by omega), HL.out]; rfl
      have a1 : w5.cell? ⟨w2.heap.size, 1, none⟩ = some (.int .i64 (l.getD 1 0)) := by rw [hr5.cellAt 1 (by omega), HL.out]; rfl
      have a2 : w5.cell? ⟨w2.heap.size, 2, none⟩ = some (.int .i64 (l.getD 2 0)) := by rw [hr5.cellAt 2 (by omega), HL.out]; rfl
      have b0 : w5.cell? ⟨g2, 0, none⟩ = some (.int .i64 (l.getD 0 0)) := hm.cellAt 0 (by omega)
      have b1 : w5.cell? ⟨g2, 1, none⟩ = some (.int .i64 (l.getD 1 0)) := hm.cellAt 1 (by omega)
      have b2 : w5.cell? ⟨g2, 2, none⟩ = some (.int .i64 (l.getD 2 0)) := hm.cellAt 2 (by omega)
      have B5 := h5.bel
      clear hm hb5 h5 en ho4 hr5
      have q0 := HM.out.2 0
      have q1 := HM.out.2 1
      have q2 := HM.out.2 2
      have S7 := S6H.out
      obtain ⟨X, hX⟩ : ∃ X : Int, X = l.getD 0 0 := ⟨_, rfl⟩
      obtain ⟨Y, hY⟩ : ∃ Y : Int, Y = l.getD 1 0 := ⟨_, rfl⟩
      obtain ⟨Z, hZ⟩ : ∃ Z : Int, Z = l.getD 2 0 := ⟨_, rfl⟩
      rw [← hX] at a0 b0 q0 S7
      rw [← hY] at a1 b1 q1 S7
      rw [← hZ] at a2 b2 q2 S7
      subst S7
      have e1 : IntKind.i64.wrap (X + Y) = X + Y := IntWalk.i64_in _ (by omega)
      have e2 : IntKind.i64.wrap (X + Y + Z) = X + Y + Z := IntWalk.i64_in _ (by omega)
      clear hX hY hZ
      have f0 : ((X + Y + Z : Int) == X + Y + Z) = true := by simp
      have f1 : ((X : Int) == X) = true := by simp
      have f2 : ((Y : Int) == Y) = true := by simp
      have f3 : ((Z : Int) == Z) = true := by simp
      go_wp2_with fail
      go_quiet (fail)
      go_wp2_with fail
      go_ret
      exact ⟨rfl, below_drewN B5 _⟩

end Go.Proofs.Ytonjpdidbgicgaa
