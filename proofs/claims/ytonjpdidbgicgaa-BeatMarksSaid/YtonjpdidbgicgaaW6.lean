/-
  Chapter 19: Take of the program, walked through its text: the loop over the owners.
-/
import Derived.Test.YtonjpdidbgicgaaW5
namespace Go.Proofs.Ytonjpdidbgicgaa
open Go.RowKit

set_option maxRecDepth 100000 in
set_option maxHeartbeats 4000000 in
theorem take_any (b : Nat) (s : BSt) (A : Option Addr) (n c : Nat) (l : List Int) (w : World) (h : IsBeat w b s) (ho : s.Ok) (hr : Reads w w.heap.size 1 A n (ints l))
    (hne : ∀ ad, A = some ad → ad.block ≠ b) (hn : n ≤ 65536) :
    Calls Try.prog 16 #[.pointer (some ⟨b, 0, none⟩), .slice A n c] w fun e w' => ∃ v, e = .returned v ∧
      w'.ownsRow w.heap.size 53 2 v (takeL s l (ownB s l)).length (idCells (takeL s l (ownB s l))) ∧ IsBeat w' b (takeS s l (ownB s l)) ∧ w.grownBy w' (some b) := by
  have hln : l.length = n := by have := hr.1; simpa [ints] using this
  have h1 := ho.n1
  have h7 := ho.n7
  have h0 := h.c0
  have hlt := h.lt
  have H := hide h
  have HR := hide hr
  have OK := hide ho
  have LN := hide hln
  have NE := hide hne
  clear h hr ho hln hne
  go_enter Try.func16, Try.ntmps16
  go_wp2
  · go_loopg [5, 16] (ownB s l + 1) (fun m v i wr => ∃ k : Nat, i = .int .i64 k ∧ k ≤ ownB s l ∧ m = ownB s l + 1 - k ∧
      wr.ownsRow w.heap.size 53 2 v (takeL s l k).length (idCells (takeL s l k)) ∧ IsBeat wr b (takeS s l k) ∧ w.grownBy wr (some b))
    case atStart => exact ⟨0, rfl, by omega, by omega, World.ownsRow_nil _ _ _ _, by rw [takeS_zero]; exact H.out, .refl _ _⟩
    case round =>
      obtain ⟨k, rfl, hk, rfl, hown, hbt, hg⟩ := hrel
      have HB := hide hbt
      have HO := hide hown
      have HG := hide hg
      clear hbt hown hg
      have hq : ownB s l = min n s.n.toNat := by rw [← LN.out]; rfl
      by_cases hlt2 : k < ownB s l
      · have k1 : (k : Int) < s.n := by omega
        have k2 : k < n := by omega
        have k3 : k < s.n.toNat := by omega
        have Q := hide hq
        clear hq
        go_wp2_with fail
        refine wp_scope_ghost 0 (fun m a' w' => ∃ (i : Nat) (q : Int) (v u19 u20 u21 u22 u23 u24 u25 u26 u27 u28 u29 u30 u31 u32 u33 u34 u35 u36 u37 u38 u39 u40 u41 u42 u43 u44 u45 u46 u47 u48 u49 u50 u51 u52 u53 u54 u55 u56 u57 u58 u59 u60 u61 : Value), q = 64 - (i : Int) ∧ i ≤ cntB s (k + 1) (l.getD k 0) ∧ m = cntB s (k + 1) (l.getD k 0) - i ∧
          w'.ownsRow w.heap.size 53 2 v ((takeL s l k).length + i) (idCells (takeL s l k ++ idsOf s (k + 1) i)) ∧ IsBeat w' b (midS s l k i) ∧ w.grownBy w' (some b) ∧
          a' = { tmps := #[.pointer (some ⟨b, 0, none⟩), .slice A n c, undef, undef, .slice none 0 0, v, .int .i64 (k : Int), .int .i64 ((k : Int) + 1), .int .i64 q, .slice A n c, .int .i64 (n : Int), .pointer (some ⟨b, 0, none⟩), .pointer (some ⟨b, 0, none⟩), .pointer (some ⟨b, 0, none⟩), .int .i64 s.n, .int .i64 s.n, .int .i64 (k : Int), .bool true, .int .i64 (k : Int), u19, u20, u21, u22, u23, u24, u25, u26, u27, u28, u29, u30, u31, u32, u33, u34, u35, u36, u37, u38, u39, u40, u41, u42, u43, u44, u45, u46, u47, u48, u49, u50, u51, u52, u53, u54, u55, u56, u57, u58, u59, u60, u61, undef], defers := [] }) rfl ?_ ?_
        · intro J hJ hpass
          go_wp2_with fail
          go_step3
          go_step
          go_step
          refine hpass _ _ _ ⟨0, 64, _, _, _, _, _, _, _, _, _, _, _, _, _, _, _, _, _, _, _, _, _, _, _, _, _, _, _, _, _, _, _, _, _, _, _, _, _, _, _, _, _, _, _, _, by omega, by omega, rfl, by simpa [idsOf] using HO.out, by rw [midS_zero]; exact HB.out, HG.out, rfl⟩
        · rintro m a' w' ⟨i, _, v, u19, u20, u21, u22, u23, u24, u25, u26, u27, u28, u29, u30, u31, u32, u33, u34, u35, u36, u37, u38, u39, u40, u41, u42, u43, u44, u45, u46, u47, u48, u49, u50, u51, u52, u53, u54, u55, u56, u57, u58, u59, u60, u61, rfl, hi, rfl, hown, hbt, hg, rfl⟩ J hJ
          obtain ⟨ad, hA, hab, hac⟩ := ints_at HR.out k2
          have c2 : w'.cell? (ad.add k) = some (.int .i64 (l.getD k 0)) := by
            rw [World.cell?_of_block (hg.block _ (by rw [block_of_add]; exact hab) (by rw [block_of_add]; intro e; injection e with e; exact NE.out ad hA e))]
            exact hac
          have hcl := cntB_le s (k + 1) (l.getD k 0)
          have HA := hide hA
          clear hA
          by_cases hi2 : i < cntB s (k + 1) (l.getD k 0)
          · refine take_yes b s A n c l w _ OK.out hlt k i v u19 u20 u21 u22 u23 u24 u25 u26 u27 u28 u29 u30 u31 u32 u33 u34 u35 u36 u37 u38 u39 u40 u41 u42 u43 u44 u45 u46 u47 u48 u49 u50 u51 u52 u53 u54 u55 u56 u57 u58 u59 u60 u61 w' ad _ k2 HA.out c2 rfl k3 (by omega) hi2 hown hbt hg J _ ?_
            intro v1 u19 u20 u21 u22 u23 u24 u25 u26 u27 u28 u29 u30 u31 u32 u33 u34 u35 u36 u37 u38 u39 u40 u41 u42 u43 u44 u45 u46 u47 u48 u49 u50 u51 u52 u53 u54 u55 u56 u57 u58 u59 u60 u61 w2 ow2 bt2 hb2
            exact hJ _ _ ⟨_, by omega, i + 1, 64 - (i : Int) - 1, v1, _, _, _, _, _, _, _, _, _, _, _, _, _, _, _, _, _, _, _, _, _, _, _, _, _, _, _, _, _, _, _, _, _, _, _, _, _, _, _, _, _, _, _, by omega, by omega, rfl, ow2, bt2, hb2, rfl⟩
          · have ci : i = cntB s (k + 1) (l.getD k 0) := by omega
            have CI := hide ci
            have hi5 : 64 ≤ i ∨ l.getD k 0 ≤ s.mrk (k + 1) + i ∨ 16777215 ≤ s.mrk (k + 1) + i := by unfold cntB at ci; omega
            clear ci
            by_cases q1 : i < 64
            · by_cases q2 : s.mrk (k + 1) + (i : Int) < l.getD k 0
              · exact take_no3 b s A n c l w _ OK.out hlt k i v u19 u20 u21 u22 u23 u24 u25 u26 u27 u28 u29 u30 u31 u32 u33 u34 u35 u36 u37 u38 u39 u40 u41 u42 u43 u44 u45 u46 u47 u48 u49 u50 u51 u52 u53 u54 u55 u56 u57 u58 u59 u60 u61 w' ad _ k2 HA.out c2 rfl k3 (by omega) q1 q2 (by omega) hown hbt hg J _ (by
                intro u19 u20 u21 u22 u23 u24 u25 u26 u27 u28 u29 u30 u31 u32 u33 u34 u35 u36 u37 u38 u39 u40 u41 u42 u43 u44 u45 u46 u47 u48 u49 u50 u51 u52 u53 u54 u55 u56 u57 u58 u59 u60 u61 w2 ow2 bt2 hb2
                go_wp2_with fail
                have e := CI.out
                rw [e] at ow2 bt2
                rw [midS_end] at bt2
                have ow3 : w2.ownsRow w.heap.size 53 2 v (takeL s l (k + 1)).length (idCells (takeL s l (k + 1))) := by
                  simp only [takeL, List.length_append, idsOf_length]
                  exact ow2
                clear ow2 e
                go_roundg (ownB s l + 1 - (k + 1))
                case measure => omega
                case rel => exact ⟨k + 1, by go_num, by omega, rfl, ow3, bt2, hb2⟩)
              · exact take_no2 b s A n c l w _ OK.out hlt k i v u19 u20 u21 u22 u23 u24 u25 u26 u27 u28 u29 u30 u31 u32 u33 u34 u35 u36 u37 u38 u39 u40 u41 u42 u43 u44 u45 u46 u47 u48 u49 u50 u51 u52 u53 u54 u55 u56 u57 u58 u59 u60 u61 w' ad _ k2 HA.out c2 rfl k3 (by omega) q1 (by omega) hown hbt hg J _ (by
                intro u19 u20 u21 u22 u23 u24 u25 u26 u27 u28 u29 u30 u31 u32 u33 u34 u35 u36 u37 u38 u39 u40 u41 u42 u43 u44 u45 u46 u47 u48 u49 u50 u51 u52 u53 u54 u55 u56 u57 u58 u59 u60 u61 w2 ow2 bt2 hb2
                go_wp2_with fail
                have e := CI.out
                rw [e] at ow2 bt2
                rw [midS_end] at bt2
                have ow3 : w2.ownsRow w.heap.size 53 2 v (takeL s l (k + 1)).length (idCells (takeL s l (k + 1))) := by
                  simp only [takeL, List.length_append, idsOf_length]
                  exact ow2
                clear ow2 e
                go_roundg (ownB s l + 1 - (k + 1))
                case measure => omega
                case rel => exact ⟨k + 1, by go_num, by omega, rfl, ow3, bt2, hb2⟩)
            · exact take_no1 b s A n c l w _ OK.out hlt k i v u19 u20 u21 u22 u23 u24 u25 u26 u27 u28 u29 u30 u31 u32 u33 u34 u35 u36 u37 u38 u39 u40 u41 u42 u43 u44 u45 u46 u47 u48 u49 u50 u51 u52 u53 u54 u55 u56 u57 u58 u59 u60 u61 w' ad _ k2 HA.out c2 rfl k3 (by omega) (by omega) hown hbt hg J _ (by
                intro u19 u20 u21 u22 u23 u24 u25 u26 u27 u28 u29 u30 u31 u32 u33 u34 u35 u36 u37 u38 u39 u40 u41 u42 u43 u44 u45 u46 u47 u48 u49 u50 u51 u52 u53 u54 u55 u56 u57 u58 u59 u60 u61 w2 ow2 bt2 hb2
                go_wp2_with fail
                have e := CI.out
                rw [e] at ow2 bt2
                rw [midS_end] at bt2
                have ow3 : w2.ownsRow w.heap.size 53 2 v (takeL s l (k + 1)).length (idCells (takeL s l (k + 1))) := by
                  simp only [takeL, List.length_append, idsOf_length]
                  exact ow2
                clear ow2 e
                go_roundg (ownB s l + 1 - (k + 1))
                case measure => omega
                case rel => exact ⟨k + 1, by go_num, by omega, rfl, ow3, bt2, hb2⟩)
      · have k3 : k = ownB s l := by omega
        have k1 : s.n ≤ (k : Int) := by omega
        have Q := hide k3
        clear k3 hq hlt2 hk
        go_wp2_with fail
        go_ret
        have := Q.out
        subst this
        exact ⟨_, rfl, HO.out, HB.out, HG.out⟩
  · go_loopg [5, 16] (ownB s l + 1) (fun m v i wr => ∃ k : Nat, i = .int .i64 k ∧ k ≤ ownB s l ∧ m = ownB s l + 1 - k ∧
      wr.ownsRow w.heap.size 53 2 v (takeL s l k).length (idCells (takeL s l k)) ∧ IsBeat wr b (takeS s l k) ∧ w.grownBy wr (some b))
    case atStart => exact ⟨0, rfl, by omega, by omega, World.ownsRow_nil _ _ _ _, by rw [takeS_zero]; exact H.out, .refl _ _⟩
    case round =>
      obtain ⟨k, rfl, hk, rfl, hown, hbt, hg⟩ := hrel
      have HB := hide hbt
      have HO := hide hown
      have HG := hide hg
      clear hbt hown hg
      have hq : ownB s l = min n s.n.toNat := by rw [← LN.out]; rfl
      by_cases hlt2 : k < ownB s l
      · have k1 : (k : Int) < s.n := by omega
        have k2 : k < n := by omega
        have k3 : k < s.n.toNat := by omega
        have Q := hide hq
        clear hq
        go_wp2_with fail
        refine wp_scope_ghost 0 (fun m a' w' => ∃ (i : Nat) (q : Int) (v u19 u20 u21 u22 u23 u24 u25 u26 u27 u28 u29 u30 u31 u32 u33 u34 u35 u36 u37 u38 u39 u40 u41 u42 u43 u44 u45 u46 u47 u48 u49 u50 u51 u52 u53 u54 u55 u56 u57 u58 u59 u60 u61 : Value), q = 64 - (i : Int) ∧ i ≤ cntB s (k + 1) (l.getD k 0) ∧ m = cntB s (k + 1) (l.getD k 0) - i ∧
          w'.ownsRow w.heap.size 53 2 v ((takeL s l k).length + i) (idCells (takeL s l k ++ idsOf s (k + 1) i)) ∧ IsBeat w' b (midS s l k i) ∧ w.grownBy w' (some b) ∧
          a' = { tmps := #[.pointer (some ⟨b, 0, none⟩), .slice A n c, undef, undef, .slice none 0 0, v, .int .i64 (k : Int), .int .i64 ((k : Int) + 1), .int .i64 q, .slice A n c, .int .i64 (n : Int), .pointer (some ⟨b, 0, none⟩), .pointer (some ⟨b, 0, none⟩), .pointer (some ⟨b, 0, none⟩), .int .i64 s.n, .int .i64 (n : Int), .int .i64 (k : Int), .bool true, .int .i64 (k : Int), u19, u20, u21, u22, u23, u24, u25, u26, u27, u28, u29, u30, u31, u32, u33, u34, u35, u36, u37, u38, u39, u40, u41, u42, u43, u44, u45, u46, u47, u48, u49, u50, u51, u52, u53, u54, u55, u56, u57, u58, u59, u60, u61, undef], defers := [] }) rfl ?_ ?_
        · intro J hJ hpass
          go_wp2_with fail
          go_step3
          go_step
          go_step
          refine hpass _ _ _ ⟨0, 64, _, _, _, _, _, _, _, _, _, _, _, _, _, _, _, _, _, _, _, _, _, _, _, _, _, _, _, _, _, _, _, _, _, _, _, _, _, _, _, _, _, _, _, _, by omega, by omega, rfl, by simpa [idsOf] using HO.out, by rw [midS_zero]; exact HB.out, HG.out, rfl⟩
        · rintro m a' w' ⟨i, _, v, u19, u20, u21, u22, u23, u24, u25, u26, u27, u28, u29, u30, u31, u32, u33, u34, u35, u36, u37, u38, u39, u40, u41, u42, u43, u44, u45, u46, u47, u48, u49, u50, u51, u52, u53, u54, u55, u56, u57, u58, u59, u60, u61, rfl, hi, rfl, hown, hbt, hg, rfl⟩ J hJ
          obtain ⟨ad, hA, hab, hac⟩ := ints_at HR.out k2
          have c2 : w'.cell? (ad.add k) = some (.int .i64 (l.getD k 0)) := by
            rw [World.cell?_of_block (hg.block _ (by rw [block_of_add]; exact hab) (by rw [block_of_add]; intro e; injection e with e; exact NE.out ad hA e))]
            exact hac
          have hcl := cntB_le s (k + 1) (l.getD k 0)
          have HA := hide hA
          clear hA
          by_cases hi2 : i < cntB s (k + 1) (l.getD k 0)
          · refine take_yes b s A n c l w _ OK.out hlt k i v u19 u20 u21 u22 u23 u24 u25 u26 u27 u28 u29 u30 u31 u32 u33 u34 u35 u36 u37 u38 u39 u40 u41 u42 u43 u44 u45 u46 u47 u48 u49 u50 u51 u52 u53 u54 u55 u56 u57 u58 u59 u60 u61 w' ad _ k2 HA.out c2 rfl k3 (by omega) hi2 hown hbt hg J _ ?_
            intro v1 u19 u20 u21 u22 u23 u24 u25 u26 u27 u28 u29 u30 u31 u32 u33 u34 u35 u36 u37 u38 u39 u40 u41 u42 u43 u44 u45 u46 u47 u48 u49 u50 u51 u52 u53 u54 u55 u56 u57 u58 u59 u60 u61 w2 ow2 bt2 hb2
            exact hJ _ _ ⟨_, by omega, i + 1, 64 - (i : Int) - 1, v1, _, _, _, _, _, _, _, _, _, _, _, _, _, _, _, _, _, _, _, _, _, _, _, _, _, _, _, _, _, _, _, _, _, _, _, _, _, _, _, _, _, _, _, by omega, by omega, rfl, ow2, bt2, hb2, rfl⟩
          · have ci : i = cntB s (k + 1) (l.getD k 0) := by omega
            have CI := hide ci
            have hi5 : 64 ≤ i ∨ l.getD k 0 ≤ s.mrk (k + 1) + i ∨ 16777215 ≤ s.mrk (k + 1) + i := by unfold cntB at ci; omega
            clear ci
            by_cases q1 : i < 64
            · by_cases q2 : s.mrk (k + 1) + (i : Int) < l.getD k 0
              · exact take_no3 b s A n c l w _ OK.out hlt k i v u19 u20 u21 u22 u23 u24 u25 u26 u27 u28 u29 u30 u31 u32 u33 u34 u35 u36 u37 u38 u39 u40 u41 u42 u43 u44 u45 u46 u47 u48 u49 u50 u51 u52 u53 u54 u55 u56 u57 u58 u59 u60 u61 w' ad _ k2 HA.out c2 rfl k3 (by omega) q1 q2 (by omega) hown hbt hg J _ (by
                intro u19 u20 u21 u22 u23 u24 u25 u26 u27 u28 u29 u30 u31 u32 u33 u34 u35 u36 u37 u38 u39 u40 u41 u42 u43 u44 u45 u46 u47 u48 u49 u50 u51 u52 u53 u54 u55 u56 u57 u58 u59 u60 u61 w2 ow2 bt2 hb2
                go_wp2_with fail
                have e := CI.out
                rw [e] at ow2 bt2
                rw [midS_end] at bt2
                have ow3 : w2.ownsRow w.heap.size 53 2 v (takeL s l (k + 1)).length (idCells (takeL s l (k + 1))) := by
                  simp only [takeL, List.length_append, idsOf_length]
                  exact ow2
                clear ow2 e
                go_roundg (ownB s l + 1 - (k + 1))
                case measure => omega
                case rel => exact ⟨k + 1, by go_num, by omega, rfl, ow3, bt2, hb2⟩)
              · exact take_no2 b s A n c l w _ OK.out hlt k i v u19 u20 u21 u22 u23 u24 u25 u26 u27 u28 u29 u30 u31 u32 u33 u34 u35 u36 u37 u38 u39 u40 u41 u42 u43 u44 u45 u46 u47 u48 u49 u50 u51 u52 u53 u54 u55 u56 u57 u58 u59 u60 u61 w' ad _ k2 HA.out c2 rfl k3 (by omega) q1 (by omega) hown hbt hg J _ (by
                intro u19 u20 u21 u22 u23 u24 u25 u26 u27 u28 u29 u30 u31 u32 u33 u34 u35 u36 u37 u38 u39 u40 u41 u42 u43 u44 u45 u46 u47 u48 u49 u50 u51 u52 u53 u54 u55 u56 u57 u58 u59 u60 u61 w2 ow2 bt2 hb2
                go_wp2_with fail
                have e := CI.out
                rw [e] at ow2 bt2
                rw [midS_end] at bt2
                have ow3 : w2.ownsRow w.heap.size 53 2 v (takeL s l (k + 1)).length (idCells (takeL s l (k + 1))) := by
                  simp only [takeL, List.length_append, idsOf_length]
                  exact ow2
                clear ow2 e
                go_roundg (ownB s l + 1 - (k + 1))
                case measure => omega
                case rel => exact ⟨k + 1, by go_num, by omega, rfl, ow3, bt2, hb2⟩)
            · exact take_no1 b s A n c l w _ OK.out hlt k i v u19 u20 u21 u22 u23 u24 u25 u26 u27 u28 u29 u30 u31 u32 u33 u34 u35 u36 u37 u38 u39 u40 u41 u42 u43 u44 u45 u46 u47 u48 u49 u50 u51 u52 u53 u54 u55 u56 u57 u58 u59 u60 u61 w' ad _ k2 HA.out c2 rfl k3 (by omega) (by omega) hown hbt hg J _ (by
                intro u19 u20 u21 u22 u23 u24 u25 u26 u27 u28 u29 u30 u31 u32 u33 u34 u35 u36 u37 u38 u39 u40 u41 u42 u43 u44 u45 u46 u47 u48 u49 u50 u51 u52 u53 u54 u55 u56 u57 u58 u59 u60 u61 w2 ow2 bt2 hb2
                go_wp2_with fail
                have e := CI.out
                rw [e] at ow2 bt2
                rw [midS_end] at bt2
                have ow3 : w2.ownsRow w.heap.size 53 2 v (takeL s l (k + 1)).length (idCells (takeL s l (k + 1))) := by
                  simp only [takeL, List.length_append, idsOf_length]
                  exact ow2
                clear ow2 e
                go_roundg (ownB s l + 1 - (k + 1))
                case measure => omega
                case rel => exact ⟨k + 1, by go_num, by omega, rfl, ow3, bt2, hb2⟩)
      · have k3 : k = ownB s l := by omega
        have k1 : n ≤ k := by omega
        have Q := hide k3
        clear k3 hq hlt2 hk
        go_wp2_with fail
        go_ret
        have := Q.out
        subst this
        exact ⟨_, rfl, HO.out, HB.out, HG.out⟩

end Go.Proofs.Ytonjpdidbgicgaa
