/-
  Chapter 19: Take of the program: the last pass from its label, walked through its text: no more instance is taken.
-/
import Derived.Test.YtonjpdidbgicgaaW4
namespace Go.Proofs.Ytonjpdidbgicgaa
open Go.RowKit

set_option maxRecDepth 100000 in
set_option maxHeartbeats 2000000 in
theorem take_no1 (b : Nat) (s : BSt) (A : Option Addr) (n c : Nat) (l : List Int) (w : World) (B : Int) (ho : s.Ok) (hb : b < w.heap.size) (k i : Nat) (v u19 u20 u21 u22 u23 u24 u25 u26 u27 u28 u29 u30 u31 u32 u33 u34 u35 u36 u37 u38 u39 u40 u41 u42 u43 u44 u45 u46 u47 u48 u49 u50 u51 u52 u53 u54 u55 u56 u57 u58 u59 u60 u61 : Value) (w' : World) (ad : Addr) (X : Int)
    (hn : k < n) (hA : A = some ad) (hx : w'.cell? (ad.add k) = some (.int .i64 X)) (hX : X = l.getD k 0) (hk : k < s.n.toNat) (hi : i ≤ 64) (hc : i = 64)
    (hown : w'.ownsRow w.heap.size 53 2 v ((takeL s l k).length + i) (idCells (takeL s l k ++ idsOf s (k + 1) i))) (hbt : IsBeat w' b (midS s l k i)) (hg : w.grownBy w' (some b))
    (J : Act → World → Prop) (Q : Exit → Act → World → Prop)
    (hQ : ∀ (u19 u20 u21 u22 u23 u24 u25 u26 u27 u28 u29 u30 u31 u32 u33 u34 u35 u36 u37 u38 u39 u40 u41 u42 u43 u44 u45 u46 u47 u48 u49 u50 u51 u52 u53 u54 u55 u56 u57 u58 u59 u60 u61 : Value) (w2 : World), w2.ownsRow w.heap.size 53 2 v ((takeL s l k).length + i) (idCells (takeL s l k ++ idsOf s (k + 1) i)) → IsBeat w2 b (midS s l k i) → w.grownBy w2 (some b) →
      Q .normal { tmps := #[.pointer (some ⟨b, 0, none⟩), .slice A n c, undef, undef, .slice none 0 0, v, .int .i64 (k : Int), .int .i64 ((k : Int) + 1), .int .i64 (64 - (i : Int)), .slice A n c, .int .i64 (n : Int), .pointer (some ⟨b, 0, none⟩), .pointer (some ⟨b, 0, none⟩), .pointer (some ⟨b, 0, none⟩), .int .i64 s.n, .int .i64 B, .int .i64 (k : Int), .bool true, .int .i64 (k : Int), u19, u20, u21, u22, u23, u24, u25, u26, u27, u28, u29, u30, u31, u32, u33, u34, u35, u36, u37, u38, u39, u40, u41, u42, u43, u44, u45, u46, u47, u48, u49, u50, u51, u52, u53, u54, u55, u56, u57, u58, u59, u60, u61, undef], defers := [] } w2) :
    takeRest.wp Try.prog (Exit.jump 0 J Q) { tmps := #[.pointer (some ⟨b, 0, none⟩), .slice A n c, undef, undef, .slice none 0 0, v, .int .i64 (k : Int), .int .i64 ((k : Int) + 1), .int .i64 (64 - (i : Int)), .slice A n c, .int .i64 (n : Int), .pointer (some ⟨b, 0, none⟩), .pointer (some ⟨b, 0, none⟩), .pointer (some ⟨b, 0, none⟩), .int .i64 s.n, .int .i64 B, .int .i64 (k : Int), .bool true, .int .i64 (k : Int), u19, u20, u21, u22, u23, u24, u25, u26, u27, u28, u29, u30, u31, u32, u33, u34, u35, u36, u37, u38, u39, u40, u41, u42, u43, u44, u45, u46, u47, u48, u49, u50, u51, u52, u53, u54, u55, u56, u57, u58, u59, u60, u61, undef], defers := [] } w' := by
  have h7 := ho.n7
  have hlt3 : b < w'.heap.size := hbt.lt
  have hw0 : w.heap.size ≤ w'.heap.size := hg.size
  have kk : ((k : Int) + 1).toNat = k + 1 := by omega
  have kz : (0 : Int) ≤ (k : Int) + 1 := by omega
  have ky : (k : Int) + 1 < 8 := by omega
  have c1 := hbt.mk (k + 1) (by omega)
  rw [midS_mrk] at c1
  have hm0 := ho.mk0 (k + 1)
  have hm1 := ho.mk1 (k + 1)
  have n7 : (midS s l k i).n ≤ 7 := h7
  have q5 : decide ((i : Int) < 64) = false := by simp; omega
  clear hc
  have BT := hide hbt
  have OW := hide hown
  have GG := hide hg
  have QQ := hide hQ
  subst hA
  clear hbt hown hg hQ ho hX
  conv => arg 2; whnf
  go_wp2_with fail
  go_quiet (fail)
  go_wp2_with fail
  refine jump_normal ?_
  exact QQ.out _ _ _ _ _ _ _ _ _ _ _ _ _ _ _ _ _ _ _ _ _ _ _ _ _ _ _ _ _ _ _ _ _ _ _ _ _ _ _ _ _ _ _ _ (World.ownsRow.drew OW.out) (World.rowIs.drew BT.out) (only_drewN GG.out _)
set_option maxRecDepth 100000 in
set_option maxHeartbeats 2000000 in
theorem take_no2 (b : Nat) (s : BSt) (A : Option Addr) (n c : Nat) (l : List Int) (w : World) (B : Int) (ho : s.Ok) (hb : b < w.heap.size) (k i : Nat) (v u19 u20 u21 u22 u23 u24 u25 u26 u27 u28 u29 u30 u31 u32 u33 u34 u35 u36 u37 u38 u39 u40 u41 u42 u43 u44 u45 u46 u47 u48 u49 u50 u51 u52 u53 u54 u55 u56 u57 u58 u59 u60 u61 : Value) (w' : World) (ad : Addr) (X : Int)
    (hn : k < n) (hA : A = some ad) (hx : w'.cell? (ad.add k) = some (.int .i64 X)) (hX : X = l.getD k 0) (hk : k < s.n.toNat) (hi : i ≤ 64) (hc : i < 64) (hd : X ≤ s.mrk (k + 1) + i)
    (hown : w'.ownsRow w.heap.size 53 2 v ((takeL s l k).length + i) (idCells (takeL s l k ++ idsOf s (k + 1) i))) (hbt : IsBeat w' b (midS s l k i)) (hg : w.grownBy w' (some b))
    (J : Act → World → Prop) (Q : Exit → Act → World → Prop)
    (hQ : ∀ (u19 u20 u21 u22 u23 u24 u25 u26 u27 u28 u29 u30 u31 u32 u33 u34 u35 u36 u37 u38 u39 u40 u41 u42 u43 u44 u45 u46 u47 u48 u49 u50 u51 u52 u53 u54 u55 u56 u57 u58 u59 u60 u61 : Value) (w2 : World), w2.ownsRow w.heap.size 53 2 v ((takeL s l k).length + i) (idCells (takeL s l k ++ idsOf s (k + 1) i)) → IsBeat w2 b (midS s l k i) → w.grownBy w2 (some b) →
      Q .normal { tmps := #[.pointer (some ⟨b, 0, none⟩), .slice A n c, undef, undef, .slice none 0 0, v, .int .i64 (k : Int), .int .i64 ((k : Int) + 1), .int .i64 (64 - (i : Int)), .slice A n c, .int .i64 (n : Int), .pointer (some ⟨b, 0, none⟩), .pointer (some ⟨b, 0, none⟩), .pointer (some ⟨b, 0, none⟩), .int .i64 s.n, .int .i64 B, .int .i64 (k : Int), .bool true, .int .i64 (k : Int), u19, u20, u21, u22, u23, u24, u25, u26, u27, u28, u29, u30, u31, u32, u33, u34, u35, u36, u37, u38, u39, u40, u41, u42, u43, u44, u45, u46, u47, u48, u49, u50, u51, u52, u53, u54, u55, u56, u57, u58, u59, u60, u61, undef], defers := [] } w2) :
    takeRest.wp Try.prog (Exit.jump 0 J Q) { tmps := #[.pointer (some ⟨b, 0, none⟩), .slice A n c, undef, undef, .slice none 0 0, v, .int .i64 (k : Int), .int .i64 ((k : Int) + 1), .int .i64 (64 - (i : Int)), .slice A n c, .int .i64 (n : Int), .pointer (some ⟨b, 0, none⟩), .pointer (some ⟨b, 0, none⟩), .pointer (some ⟨b, 0, none⟩), .int .i64 s.n, .int .i64 B, .int .i64 (k : Int), .bool true, .int .i64 (k : Int), u19, u20, u21, u22, u23, u24, u25, u26, u27, u28, u29, u30, u31, u32, u33, u34, u35, u36, u37, u38, u39, u40, u41, u42, u43, u44, u45, u46, u47, u48, u49, u50, u51, u52, u53, u54, u55, u56, u57, u58, u59, u60, u61, undef], defers := [] } w' := by
  have h7 := ho.n7
  have hlt3 : b < w'.heap.size := hbt.lt
  have hw0 : w.heap.size ≤ w'.heap.size := hg.size
  have kk : ((k : Int) + 1).toNat = k + 1 := by omega
  have kz : (0 : Int) ≤ (k : Int) + 1 := by omega
  have ky : (k : Int) + 1 < 8 := by omega
  have c1 := hbt.mk (k + 1) (by omega)
  rw [midS_mrk] at c1
  have hm0 := ho.mk0 (k + 1)
  have hm1 := ho.mk1 (k + 1)
  have n7 : (midS s l k i).n ≤ 7 := h7
  have q6 : (i : Int) < 64 := by omega
  have q5 : decide (s.mrk (k + 1) + (i : Int) < X) = false := by simp; omega
  clear hc hd
  have BT := hide hbt
  have OW := hide hown
  have GG := hide hg
  have QQ := hide hQ
  subst hA
  clear hbt hown hg hQ ho hX
  conv => arg 2; whnf
  go_wp2_with fail
  go_quiet (fail)
  go_wp2_with fail
  refine jump_normal ?_
  exact QQ.out _ _ _ _ _ _ _ _ _ _ _ _ _ _ _ _ _ _ _ _ _ _ _ _ _ _ _ _ _ _ _ _ _ _ _ _ _ _ _ _ _ _ _ _ (World.ownsRow.drew OW.out) (World.rowIs.drew BT.out) (only_drewN GG.out _)
set_option maxRecDepth 100000 in
set_option maxHeartbeats 2000000 in
theorem take_no3 (b : Nat) (s : BSt) (A : Option Addr) (n c : Nat) (l : List Int) (w : World) (B : Int) (ho : s.Ok) (hb : b < w.heap.size) (k i : Nat) (v u19 u20 u21 u22 u23 u24 u25 u26 u27 u28 u29 u30 u31 u32 u33 u34 u35 u36 u37 u38 u39 u40 u41 u42 u43 u44 u45 u46 u47 u48 u49 u50 u51 u52 u53 u54 u55 u56 u57 u58 u59 u60 u61 : Value) (w' : World) (ad : Addr) (X : Int)
    (hn : k < n) (hA : A = some ad) (hx : w'.cell? (ad.add k) = some (.int .i64 X)) (hX : X = l.getD k 0) (hk : k < s.n.toNat) (hi : i ≤ 64) (hc : i < 64) (hd : s.mrk (k + 1) + i < X) (he : 16777215 < s.mrk (k + 1) + i + 1)
    (hown : w'.ownsRow w.heap.size 53 2 v ((takeL s l k).length + i) (idCells (takeL s l k ++ idsOf s (k + 1) i))) (hbt : IsBeat w' b (midS s l k i)) (hg : w.grownBy w' (some b))
    (J : Act → World → Prop) (Q : Exit → Act → World → Prop)
    (hQ : ∀ (u19 u20 u21 u22 u23 u24 u25 u26 u27 u28 u29 u30 u31 u32 u33 u34 u35 u36 u37 u38 u39 u40 u41 u42 u43 u44 u45 u46 u47 u48 u49 u50 u51 u52 u53 u54 u55 u56 u57 u58 u59 u60 u61 : Value) (w2 : World), w2.ownsRow w.heap.size 53 2 v ((takeL s l k).length + i) (idCells (takeL s l k ++ idsOf s (k + 1) i)) → IsBeat w2 b (midS s l k i) → w.grownBy w2 (some b) →
      Q .normal { tmps := #[.pointer (some ⟨b, 0, none⟩), .slice A n c, undef, undef, .slice none 0 0, v, .int .i64 (k : Int), .int .i64 ((k : Int) + 1), .int .i64 (64 - (i : Int)), .slice A n c, .int .i64 (n : Int), .pointer (some ⟨b, 0, none⟩), .pointer (some ⟨b, 0, none⟩), .pointer (some ⟨b, 0, none⟩), .int .i64 s.n, .int .i64 B, .int .i64 (k : Int), .bool true, .int .i64 (k : Int), u19, u20, u21, u22, u23, u24, u25, u26, u27, u28, u29, u30, u31, u32, u33, u34, u35, u36, u37, u38, u39, u40, u41, u42, u43, u44, u45, u46, u47, u48, u49, u50, u51, u52, u53, u54, u55, u56, u57, u58, u59, u60, u61, undef], defers := [] } w2) :
    takeRest.wp Try.prog (Exit.jump 0 J Q) { tmps := #[.pointer (some ⟨b, 0, none⟩), .slice A n c, undef, undef, .slice none 0 0, v, .int .i64 (k : Int), .int .i64 ((k : Int) + 1), .int .i64 (64 - (i : Int)), .slice A n c, .int .i64 (n : Int), .pointer (some ⟨b, 0, none⟩), .pointer (some ⟨b, 0, none⟩), .pointer (some ⟨b, 0, none⟩), .int .i64 s.n, .int .i64 B, .int .i64 (k : Int), .bool true, .int .i64 (k : Int), u19, u20, u21, u22, u23, u24, u25, u26, u27, u28, u29, u30, u31, u32, u33, u34, u35, u36, u37, u38, u39, u40, u41, u42, u43, u44, u45, u46, u47, u48, u49, u50, u51, u52, u53, u54, u55, u56, u57, u58, u59, u60, u61, undef], defers := [] } w' := by
  have h7 := ho.n7
  have hlt3 : b < w'.heap.size := hbt.lt
  have hw0 : w.heap.size ≤ w'.heap.size := hg.size
  have kk : ((k : Int) + 1).toNat = k + 1 := by omega
  have kz : (0 : Int) ≤ (k : Int) + 1 := by omega
  have ky : (k : Int) + 1 < 8 := by omega
  have c1 := hbt.mk (k + 1) (by omega)
  rw [midS_mrk] at c1
  have hm0 := ho.mk0 (k + 1)
  have hm1 := ho.mk1 (k + 1)
  have n7 : (midS s l k i).n ≤ 7 := h7
  have q6 : (i : Int) < 64 := by omega
  have MN := hide (mid_markB_no (s := s) l k i he)
  have t5 : IntKind.i64.wrap (s.mrk (k + 1) + (i : Int) + 1) = s.mrk (k + 1) + (i : Int) + 1 := IntWalk.i64_in _ (by omega)
  clear hc he
  have BT := hide hbt
  have OW := hide hown
  have GG := hide hg
  have QQ := hide hQ
  subst hA
  clear hbt hown hg hQ ho hX
  conv => arg 2; whnf
  go_wp2_with fail
  refine wp_region_tail 25 mixed (by kernel_rfl) ?_
  simp only [List.take_succ_cons, List.take_zero, List.drop_succ_cons, List.drop_zero]
  repeat still_step
  refine wpStill_nil ?_
  go_wp2_with fail
  refine (mark_any b (midS s l k i) _ _ _ (World.rowIs.drew BT.out) n7).mono ?_
  rw [MN.out, markS_of_no MN.out]
  rintro e w1 ⟨rfl, hbt1, hg1, hs1⟩
  have BT1 := hide hbt1
  have G1 := hide (only_trans GG.out (only_undrew hg1))
  have O1 := hide (OW.out.kept (only_undrew hg1) (own_not OW.out hb))
  clear hbt1 hg1 hs1
  go_wp2_with fail
  refine jump_normal ?_
  exact QQ.out _ _ _ _ _ _ _ _ _ _ _ _ _ _ _ _ _ _ _ _ _ _ _ _ _ _ _ _ _ _ _ _ _ _ _ _ _ _ _ _ _ _ _ _ O1.out BT1.out G1.out

end Go.Proofs.Ytonjpdidbgicgaa
