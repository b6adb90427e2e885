/-
  Chapter 19: Take of the document's answer, walked through its text.
-/
import Derived.Test.YtonjpdidbgicgaaW4
namespace Go.Proofs.Ytonjpdidbgicgaa
open Go.RowKit

theorem rid_info : (Try.prog.info? 68).map (fun i => (i.zero, i.size, i.bytes)) = some (some (.agg #[.int .i64 0, .int .i64 0]), 2, 16) := by kernel_rfl

theorem rmid_no {s : BSt} (l : List Int) (k j : Nat) (x : Int) (h : 16777215 < x) : markB (midS s l k j) ((k : Int) + 1) x = false := by
  simp only [markB, Bool.and_eq_false_iff, decide_eq_false_iff_not]
  omega

/-- How often the inner loop goes round. -/
def turnsB (s : BSt) (o : Nat) (mx : Int) : Nat := min 64 (mx - s.mrk o).toNat

noncomputable def rtakeIn : Code := (((Try.f17.body.bind firstLoop).bind firstLoop).getD .skip)

set_option maxRecDepth 100000 in
set_option maxHeartbeats 2000000 in
theorem rtake_any (b : Nat) (s : BSt) (A : Option Addr) (n c : Nat) (l : List Int) (w : World) (h : IsRef w b s) (ho : s.Ok) (hr : Reads w w.heap.size 1 A n (ints l))
    (hne : ∀ ad, A = some ad → ad.block ≠ b) (hn : n ≤ 65536) :
    Calls Try.prog 17 #[.pointer (some ⟨b, 0, none⟩), .slice A n c] w fun e w' => ∃ v, e = .returned v ∧
      w'.ownsRow w.heap.size 68 2 v (takeL s l (ownB s l)).length (idCells (takeL s l (ownB s l))) ∧ IsRef w' b (takeS s l (ownB s l)) ∧ w.grownBy w' (some b) := by
  have hln : l.length = n := by have := hr.1; simpa [ints] using this
  have h1 := ho.n1
  have h7 := ho.n7
  have hlt := h.lt
  have H := hide h
  have HR := hide hr
  have OK := hide ho
  have LN := hide hln
  have NE := hide hne
  clear h hr ho hln hne
  go_enter Try.func17, Try.ntmps17
  go_wp2
  go_loopg [5, 6] (ownB s l + 1) (fun m v i wr => ∃ k : Nat, i = .int .i64 ((k : Int) + 1) ∧ k ≤ ownB s l ∧ m = ownB s l + 1 - k ∧
      wr.ownsRow w.heap.size 68 2 v (takeL s l k).length (idCells (takeL s l k)) ∧ IsRef wr b (takeS s l k) ∧ w.grownBy wr (some b))
  case atStart => exact ⟨0, rfl, by omega, by omega, World.ownsRow_nil _ _ _ _, by rw [takeS_zero]; exact H.out, .refl _ _⟩
  case round =>
    obtain ⟨k, rfl, hk, rfl, hown, hbt, hg⟩ := hrel
    have c0 := hbt.c0
    have hn0 : (takeS s l k).n = s.n := rfl
    rw [hn0] at c0
    have HB := hide hbt
    have HO := hide hown
    have HG := hide hg
    clear hown hg hn0
    have hq : ownB s l = min n s.n.toNat := by rw [← LN.out]; rfl
    by_cases hlt2 : k < ownB s l
    · have k1 : (k : Int) + 1 ≤ s.n := by omega
      have k2 : k < n := by omega
      have k2' : (k : Int) + 1 ≤ (n : Int) := by omega
      have k3 : k < s.n.toNat := by omega
      have k4 : ((k : Int) + 1).toNat = k + 1 := by omega
      have k5 : (k : Int) + 1 < 8 := by omega
      have k6 : (k : Int) < n := by omega
      have cm := hbt.mk (k + 1) (by omega)
      rw [takeS_mrk_succ] at cm
      have f0 := OK.out.mk0 (k + 1)
      have f1 := OK.out.mk1 (k + 1)
      have Q := hide hq
      clear hq hbt
      go_wp2_with fail
      obtain ⟨ad, hA, hab, hac⟩ := ints_at HR.out k2
      obtain ⟨X, hX⟩ : ∃ X : Int, X = l.getD k 0 := ⟨_, rfl⟩
      rw [← hX] at hac
      have XX := hide hX
      have HA := hide hA
      subst hA
      clear hX
      obtain ⟨wo, rfl⟩ : ∃ wo : World, wo = wr := ⟨_, rfl⟩
      go_loopg [5, 8] (turnsB s (k + 1) X + 1) (fun m v i wr => ∃ i' : Nat, i = .int .i64 ((i' : Int) + 1) ∧ i' ≤ turnsB s (k + 1) X ∧ m = turnsB s (k + 1) X + 1 - i' ∧
        wr.ownsRow w.heap.size 68 2 v ((takeL s l k).length + min i' (cntB s (k + 1) X)) (idCells (takeL s l k ++ idsOf s (k + 1) (min i' (cntB s (k + 1) X)))) ∧
        IsRef wr b (midS s l k (min i' (cntB s (k + 1) X))) ∧ w.grownBy wr (some b))
      case atStart => exact ⟨0, rfl, by omega, by omega, by simpa [idsOf] using HO.out, by rw [Nat.zero_min, midS_zero]; exact HB.out, HG.out⟩
      case round =>
        obtain ⟨i, rfl, hi, rfl, hown, hbt, hg⟩ := hrel
        have c2 : wr.cell? (ad.add k) = some (.int .i64 X) := by
          rw [World.cell?_of_block (hg.block _ (by rw [block_of_add]; exact hab) (by rw [block_of_add]; intro e; injection e with e; exact NE.out ad rfl e))]
          exact hac
        have hw0 : w.heap.size ≤ wr.heap.size := hg.size
        by_cases hi2 : i < turnsB s (k + 1) X
        · have hi3 := hi2
          unfold turnsB at hi3
          have t1 : (i : Int) + 1 ≤ 64 := by omega
          have t2 : s.mrk (k + 1) + ((i : Int) + 1) ≤ X := by omega
          have t5 : IntKind.i64.wrap (s.mrk (k + 1) + ((i : Int) + 1)) = s.mrk (k + 1) + ((i : Int) + 1) := IntWalk.i64_in _ (by omega)
          have ex : s.mrk (k + 1) + ((i : Int) + 1) = s.mrk (k + 1) + (i : Int) + 1 := by omega
          have hsz : (takeL s l k).length + i + 1 ≤ 1000 := by have := takeL_length_le s l k; omega
          have n7 : ∀ j, (midS s l k j).n ≤ 7 := fun _ => h7
          have HTI := hide hi2
          clear hi2 hi3 hi
          by_cases hc : i < cntB s (k + 1) X
          · have em : min i (cntB s (k + 1) X) = i := by omega
            have em1 : min (i + 1) (cntB s (k + 1) X) = i + 1 := by omega
            rw [em] at hown hbt
            have hc' := hc
            rw [XX.out] at hc'
            have MB := mid_markB l k i k3 OK.out hc'
            have MS := mid_markS l k i k3 OK.out hc'
            rw [← ex] at MB MS
            have MB' := hide MB
            have MS' := hide MS
            have EM := hide em1
            have EX := hide ex
            have HC := hide hc
            have BT := hide hbt
            have OW := hide hown
            have GG := hide hg
            have N7 := hide n7
            clear MB MS em em1 ex hc hc' hbt hown hg n7
            go_wp2_with fail
            refine (rmark_any b (midS s l k i) _ _ _ BT.out (N7.out i)).mono ?_
            rw [MB'.out, MS'.out]
            rintro e w1 ⟨rfl, hbt1, hgw, hs1⟩
            have hgz : wr.heap.size ≤ w1.heap.size := hgw.size
            have hown1 := OW.out.kept hgw (own_not OW.out hlt)
            have GW := hide hgw
            have BT1 := hide hbt1
            clear hgw hbt1 hs1
            obtain ⟨i0, hi0, hz0, hz1, hz2⟩ := info_parts rid_info
            go_wp2_with (at_builtin; go_must (refine wpList_append_own _ rfl (.tmp 50) (.tmp 56) _ rfl w.heap.size 68 i0 _ 2 16 Try.underlying40 hi0 hz0 hz1 hz2 rfl (by omega) u5 ((takeL s l k).length + i) (idCells (takeL s l k ++ idsOf s (k + 1) i)) rfl (hown1.alloc _) ⟨w1.heap.size, 0, none⟩ 1 1 [.int .i64 ((k : Int) + 1), .int .i64 (s.mrk (k + 1) + ((i : Int) + 1))] rfl rfl (cell_two_new _ _ _ _) (idCells_one [((k : Int) + 1, s.mrk (k + 1) + ((i : Int) + 1))]) (by simp only [maxLen]; omega) (by omega) (by simp; omega) ?_); intro v1 w2 hown2 hgr2 _)
            have hvb : ∀ g, u5.ownBlock = some g → w.heap.size ≤ g := fun g hv => (OW.out.lt g hv).1
            have hb2 : w.grownBy w2 (some b) := only_more (only_alloc (only_trans GG.out GW.out) _) hgr2 hvb
            have bt2 : IsRef w2 b (midS s l k (i + 1)) := IsRef.keep (BT1.out.alloc _) hgr2 (fun e => by have := hvb b e.symm; omega)
            have ow2 : w2.ownsRow w.heap.size 68 2 v1 ((takeL s l k).length + (i + 1)) (idCells (takeL s l k ++ idsOf s (k + 1) (i + 1))) := by
              rw [idsOf_succ, ← List.append_assoc, idCells_append]
              have e : s.mrk (k + 1) + 1 + (i : Int) = s.mrk (k + 1) + ((i : Int) + 1) := by omega
              rw [e]
              exact hown2
            clear hown2 hgr2
            rw [← EM.out] at bt2 ow2
            have HT := HTI.out
            go_roundg (turnsB s (k + 1) X + 1 - (i + 1))
            case measure => omega
            case rel => exact ⟨i + 1, by go_num, by omega, rfl, ow2, bt2, hb2⟩
          · have em : min i (cntB s (k + 1) X) = cntB s (k + 1) X := by omega
            have em1 : min (i + 1) (cntB s (k + 1) X) = cntB s (k + 1) X := by omega
            have h16 : 16777215 < s.mrk (k + 1) + ((i : Int) + 1) := by
              have := HTI.out
              unfold turnsB at this
              unfold cntB at hc
              omega
            rw [em] at hown hbt
            have MN := hide (rmid_no (s := s) l k (cntB s (k + 1) X) _ h16)
            have EM := hide em1
            have BT := hide hbt
            have OW := hide hown
            have GG := hide hg
            have N7 := hide n7
            clear em em1 ex hc hbt hown hg n7 h16
            go_wp2_with fail
            refine (rmark_any b (midS s l k (cntB s (k + 1) X)) _ _ _ BT.out (N7.out _)).mono ?_
            rw [MN.out, markS_of_no MN.out]
            rintro e w1 ⟨rfl, hbt1, hgw, hs1⟩
            have ow2 := OW.out.kept hgw (own_not OW.out hlt)
            have hb2 := only_trans GG.out hgw
            have HX := hide hbt1
            have HY := hide ow2
            have HZ := hide hb2
            clear hgw hbt1 hs1 ow2 hb2
            go_wp2_with fail
            have bt2 := HX.out
            have ow2 := HY.out
            rw [← EM.out] at bt2 ow2
            have HT := HTI.out
            go_roundg (turnsB s (k + 1) X + 1 - (i + 1))
            case measure => omega
            case rel => exact ⟨i + 1, by go_num, by omega, rfl, ow2, bt2, HZ.out⟩
        · have hi3 : i = turnsB s (k + 1) X := by omega
          have em : min i (cntB s (k + 1) X) = cntB s (k + 1) X := by
            unfold turnsB at hi3
            unfold cntB
            omega
          have hi4 : 64 ≤ i ∨ X < s.mrk (k + 1) + ((i : Int) + 1) := by unfold turnsB at hi3; omega
          have hi5 : i ≤ 64 := by unfold turnsB at hi3; omega
          rw [em, XX.out] at hown hbt
          rw [midS_end] at hbt
          have ow3 : wr.ownsRow w.heap.size 68 2 u5 (takeL s l (k + 1)).length (idCells (takeL s l (k + 1))) := by
            simp only [takeL, List.length_append, idsOf_length]
            exact hown
          have HX := hide hbt
          have HY := hide ow3
          have HZ := hide hg
          clear hown hbt ow3 hg em hi3 hi2 hi
          have t5 : IntKind.i64.wrap (s.mrk (k + 1) + ((i : Int) + 1)) = s.mrk (k + 1) + ((i : Int) + 1) := IntWalk.i64_in _ (by omega)
          by_cases q1 : (i : Int) + 1 ≤ 64
          · have q2 : X < s.mrk (k + 1) + ((i : Int) + 1) := by omega
            clear hi4
            go_wp2_with fail
            go_roundg (ownB s l + 1 - (k + 1))
            case measure => omega
            case rel => exact ⟨k + 1, by go_num, by omega, rfl, HY.out, HX.out, HZ.out⟩
          · have q2 : 64 < (i : Int) + 1 := by omega
            clear hi4 q1
            go_wp2_with fail
            go_roundg (ownB s l + 1 - (k + 1))
            case measure => omega
            case rel => exact ⟨k + 1, by go_num, by omega, rfl, HY.out, HX.out, HZ.out⟩
    · have k3 : k = ownB s l := by omega
      have Q := hide k3
      clear hbt
      by_cases k1 : s.n < (k : Int) + 1
      · clear k3 hq hlt2 hk
        go_wp2_with fail
        go_ret
        have := Q.out
        subst this
        exact ⟨_, rfl, HO.out, HB.out, HG.out⟩
      · have k5 : (k : Int) + 1 ≤ s.n := by omega
        have k6 : (n : Int) < (k : Int) + 1 := by omega
        clear k1 k3 hq hlt2 hk
        go_wp2_with fail
        go_ret
        have := Q.out
        subst this
        exact ⟨_, rfl, HO.out, HB.out, HG.out⟩

end Go.Proofs.Ytonjpdidbgicgaa
