/-
  Chapter 19: Take of the program: one pass from its label, walked through its text: one more instance is taken.
-/
import Derived.Test.YtonjpdidbgicgaaS2
import Derived.Test.YtonjpdidbgicgaaW3
namespace Go.Proofs.Ytonjpdidbgicgaa
open Go.RowKit

theorem id_info : (Try.prog.info? 53).map (fun i => (i.zero, i.size, i.bytes)) = some (some (.agg #[.int .i64 0, .int .i64 0]), 2, 16) := by kernel_rfl

def ints (l : List Int) : List Value := l.map (.int .i64)

theorem ints_at {w : World} {B n : Nat} {A : Option Addr} {l : List Int} {k : Nat} (h : Reads w B 1 A n (ints l)) (hk : k < n) :
    ∃ ad, A = some ad ∧ ad.block < B ∧ w.cell? (ad.add k) = some (.int .i64 (l.getD k 0)) := by
  obtain ⟨ad, u, rfl, hb, hx, hc⟩ := h.at_ hk
  refine ⟨ad, rfl, hb, ?_⟩
  rw [hc]
  have hl : k < l.length := by have := h.1; simp [ints] at this; omega
  simp only [ints, List.getElem?_map, List.getElem?_eq_getElem hl, Option.map_some, Option.some.injEq] at hx
  rw [← hx]
  simp [List.getD, hl]

theorem own_not {w : World} {base e size n b : Nat} {v : Value} {xs : List Value} (h : w.ownsRow base e size v n xs) (hb : b < base) : v.ownBlock = none ∨ v.ownBlock ≠ some b := by
  rcases hv : v.ownBlock with _ | g
  · exact .inl rfl
  · right
    intro e
    have := (h.lt g hv).1
    injection e with e
    omega

noncomputable def takeRest : Code := restOf (((Try.f16.body.bind firstScope).bind (findLabel · 0)).getD .skip)

set_option maxRecDepth 100000 in
set_option maxHeartbeats 2000000 in
theorem take_yes (b : Nat) (s : BSt) (A : Option Addr) (n c : Nat) (l : List Int) (w : World) (B : Int) (ho : s.Ok) (hb : b < w.heap.size) (k i : Nat) (v u19 u20 u21 u22 u23 u24 u25 u26 u27 u28 u29 u30 u31 u32 u33 u34 u35 u36 u37 u38 u39 u40 u41 u42 u43 u44 u45 u46 u47 u48 u49 u50 u51 u52 u53 u54 u55 u56 u57 u58 u59 u60 u61 : Value) (w' : World) (ad : Addr) (X : Int)
    (hn : k < n) (hA : A = some ad) (hx : w'.cell? (ad.add k) = some (.int .i64 X)) (hX : X = l.getD k 0) (hk : k < s.n.toNat) (hi : i ≤ 64) (hc : i < cntB s (k + 1) (l.getD k 0))
    (hown : w'.ownsRow w.heap.size 53 2 v ((takeL s l k).length + i) (idCells (takeL s l k ++ idsOf s (k + 1) i))) (hbt : IsBeat w' b (midS s l k i)) (hg : w.grownBy w' (some b))
    (J : Act → World → Prop) (Q : Exit → Act → World → Prop)
    (hJ : ∀ (v1 u19 u20 u21 u22 u23 u24 u25 u26 u27 u28 u29 u30 u31 u32 u33 u34 u35 u36 u37 u38 u39 u40 u41 u42 u43 u44 u45 u46 u47 u48 u49 u50 u51 u52 u53 u54 u55 u56 u57 u58 u59 u60 u61 : Value) (w2 : World), w2.ownsRow w.heap.size 53 2 v1 ((takeL s l k).length + (i + 1)) (idCells (takeL s l k ++ idsOf s (k + 1) (i + 1))) → IsBeat w2 b (midS s l k (i + 1)) → w.grownBy w2 (some b) →
      J { tmps := #[.pointer (some ⟨b, 0, none⟩), .slice A n c, undef, undef, .slice none 0 0, v1, .int .i64 (k : Int), .int .i64 ((k : Int) + 1), .int .i64 (64 - (i : Int) - 1), .slice A n c, .int .i64 (n : Int), .pointer (some ⟨b, 0, none⟩), .pointer (some ⟨b, 0, none⟩), .pointer (some ⟨b, 0, none⟩), .int .i64 s.n, .int .i64 B, .int .i64 (k : Int), .bool true, .int .i64 (k : Int), u19, u20, u21, u22, u23, u24, u25, u26, u27, u28, u29, u30, u31, u32, u33, u34, u35, u36, u37, u38, u39, u40, u41, u42, u43, u44, u45, u46, u47, u48, u49, u50, u51, u52, u53, u54, u55, u56, u57, u58, u59, u60, u61, undef], defers := [] } w2) :
    takeRest.wp Try.prog (Exit.jump 0 J Q) { tmps := #[.pointer (some ⟨b, 0, none⟩), .slice A n c, undef, undef, .slice none 0 0, v, .int .i64 (k : Int), .int .i64 ((k : Int) + 1), .int .i64 (64 - (i : Int)), .slice A n c, .int .i64 (n : Int), .pointer (some ⟨b, 0, none⟩), .pointer (some ⟨b, 0, none⟩), .pointer (some ⟨b, 0, none⟩), .int .i64 s.n, .int .i64 B, .int .i64 (k : Int), .bool true, .int .i64 (k : Int), u19, u20, u21, u22, u23, u24, u25, u26, u27, u28, u29, u30, u31, u32, u33, u34, u35, u36, u37, u38, u39, u40, u41, u42, u43, u44, u45, u46, u47, u48, u49, u50, u51, u52, u53, u54, u55, u56, u57, u58, u59, u60, u61, undef], defers := [] } w' := by
  obtain ⟨i0, hi0, hz0, hz1, hz2⟩ := info_parts id_info
  have h7 := ho.n7
  have hlt3 : b < w'.heap.size := hbt.lt
  have hw0 : w.heap.size ≤ w'.heap.size := hg.size
  have kk : ((k : Int) + 1).toNat = k + 1 := by omega
  have kz : (0 : Int) ≤ (k : Int) + 1 := by omega
  have ky : (k : Int) + 1 < 8 := by omega
  have c1 := hbt.mk (k + 1) (by omega)
  rw [midS_mrk] at c1
  have hm0 := ho.mk0 (k + 1)
  have hm1 := ho.mk1 (k + 1)
  have MB := hide (mid_markB l k i hk ho hc)
  have MS := hide (mid_markS l k i hk ho hc)
  have n7 : (midS s l k i).n ≤ 7 := h7
  have hi3 := hc
  rw [← hX] at hi3
  unfold cntB at hi3
  have t1 : (i : Int) < 64 := by omega
  have t2 : s.mrk (k + 1) + (i : Int) < X := by omega
  have t3 : s.mrk (k + 1) + (i : Int) + 1 ≤ 16777215 := by omega
  have t4 : 0 ≤ s.mrk (k + 1) + (i : Int) := by omega
  have t5 : IntKind.i64.wrap (s.mrk (k + 1) + (i : Int) + 1) = s.mrk (k + 1) + (i : Int) + 1 := IntWalk.i64_in _ (by omega)
  have hsz : (takeL s l k).length + i + 1 ≤ 1000 := by have := takeL_length_le s l k; omega
  have BT := hide hbt
  have OW := hide hown
  have GG := hide hg
  have JJ := hide hJ
  subst hA
  clear hbt hown hg hc hi3 hJ ho hX
  conv => arg 2; whnf
  go_wp2_with fail
  refine wp_region_tail 25 mixed (by kernel_rfl) ?_
  simp only [List.take_succ_cons, List.take_zero, List.drop_succ_cons, List.drop_zero]
  repeat still_step
  refine wpStill_nil ?_
  go_wp2_with fail
  refine (mark_any b (midS s l k i) _ _ _ (World.rowIs.drew BT.out) n7).mono ?_
  rw [MB.out, MS.out]
  rintro e w1 ⟨rfl, hbt1, hg1, hs1⟩
  have hgw := only_undrew hg1
  have c3 := hbt1.mk (k + 1) (by omega)
  rw [midS_mrk, show s.mrk (k + 1) + ((i + 1 : Nat) : Int) = s.mrk (k + 1) + (i : Int) + 1 by omega] at c3
  have hgz : w'.heap.size ≤ w1.heap.size := hgw.size
  have hown1 := OW.out.kept hgw (own_not OW.out hb)
  have GW := hide hgw
  have BT1 := hide hbt1
  clear hgw hbt1 hg1 hs1 t5
  go_wp2_with (at_builtin; go_must (refine wpList_append_own _ rfl (.tmp 48) (.tmp 57) _ rfl w.heap.size 53 i0 _ 2 16 Try.underlying38 hi0 hz0 hz1 hz2 rfl (by omega) v ((takeL s l k).length + i) (idCells (takeL s l k ++ idsOf s (k + 1) i)) rfl (hown1.alloc _) ⟨w1.heap.size, 0, none⟩ 1 1 [.int .i64 ((k : Int) + 1), .int .i64 (s.mrk (k + 1) + (i : Int) + 1)] rfl rfl (cell_two_new _ _ _ _) (idCells_one [((k : Int) + 1, s.mrk (k + 1) + (i : Int) + 1)]) (by simp only [maxLen]; omega) (by omega) (by simp; omega) ?_); intro v1 w2 hown2 hgr2 _)
  have hvb : ∀ g, v.ownBlock = some g → w.heap.size ≤ g := fun g hv => (OW.out.lt g hv).1
  have hb2 : w.grownBy w2 (some b) := only_more (only_alloc (only_trans GG.out GW.out) _) hgr2 hvb
  have bt2 : IsBeat w2 b (midS s l k (i + 1)) := IsBeat.keep (BT1.out.alloc _) hgr2 (fun e => by have := hvb b e.symm; omega)
  have ow2 : w2.ownsRow w.heap.size 53 2 v1 ((takeL s l k).length + (i + 1)) (idCells (takeL s l k ++ idsOf s (k + 1) (i + 1))) := by
    rw [idsOf_succ, ← List.append_assoc, idCells_append]
    have e : s.mrk (k + 1) + 1 + (i : Int) = s.mrk (k + 1) + (i : Int) + 1 := by omega
    rw [e]
    exact hown2
  clear hown2 hgr2
  go_step3
  refine jump_goto ?_
  exact JJ.out v1 _ _ _ _ _ _ _ _ _ _ _ _ _ _ _ _ _ _ _ _ _ _ _ _ _ _ _ _ _ _ _ _ _ _ _ _ _ _ _ _ _ _ _ w2 ow2 bt2 hb2

end Go.Proofs.Ytonjpdidbgicgaa
