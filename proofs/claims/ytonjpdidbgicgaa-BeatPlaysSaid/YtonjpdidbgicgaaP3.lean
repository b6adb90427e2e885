/-
  Chapter 19: BeatPlays: a deed that is near: its numbers are brought near, walked through its text.
-/
import Derived.Test.YtonjpdidbgicgaaP1
import Derived.Test.YtonjpdidbgicgaaK2
import Derived.Deep.RegionHeld3
import Derived.Deep.CutBlock
namespace Go.Proofs.Ytonjpdidbgicgaa
open Go.RowKit
set_option linter.unusedVariables false

noncomputable def nearPCode : Code := codeAt ((Try.f3.body).getD .skip) [1, 1, 1, 1, 1, 1, 1, 1, 0, 1, 0, 0, 1, 0, 0, 1, 1, 0, 1]

set_option maxRecDepth 100000 in
set_option maxHeartbeats 4000000 in
theorem nearP {c0 c1 c2 c3 c4 c5 c6 c7 c8 c9 c10 c11 c12 c13 c14 c18 c19 c20 c21 c22 c23 c24 c25 c26 c27 c28 c29 c30 c31 c32 c33 c34 c35 c36 c37 c38 c39 c40 c41 c42 c43 c44 c45 c46 c47 c48 c49 c50 c51 c52 c53 c54 c55 c56 c57 c58 c59 c60 c61 c62 c63 c64 c65 c66 c67 c68 c69 c70 c71 c72 c73 c74 c75 c76 c77 c78 c79 c80 c81 c82 c83 c84 c85 c86 c87 c88 c89 c90 c91 c92 c94 c95 c96 c97 c98 c99 c100 c101 c102 c103 c104 c105 c106 c107 c108 c109 c110 c111 c112 c113 c114 c115 c116 c117 c118 c119 c120 c121 c122 c123 c124 c125 c126 c127 c128 c129 c130 c131 c132 c133 c134 c135 c136 c137 c138 c139 c140 c141 c142 c143 c144 c145 c146 c147 c148 c149 c150 c151 c152 c153 c154 c155 c156 c157 c158 c159 c160 c161 c162 c163 c164 c165 c166 c167 c168 c169 c170 c171 c172 c173 c174 c175 c176 c177 c178 c179 c180 c181 c182 c183 c184 c185 c186 c187 c188 c189 c190 c191 c192 c193 c194 c195 c196 c197 c198 c199 c200 c201 c202 c203 c204 c205 c206 c207 c208 c209 c210 c211 c212 c213 c214 c215 c216 c217 c218 c219 c220 c221 c222 c223 c224 c225 c226 : Value} (w wc : World) (b x ub i mm mn mc vc : Nat) (vA MA : Option Addr) (k who nn now : Int) (ml : List Int) (s : BSt)
    (hi : i < 40) (hm : mm ≤ 9) (bt : 0 ≤ now ∧ now ≤ 18446744073709551615) (OW : wc.ownsRow w.heap.size 3 1 (.slice vA mm vc) mm (ints ml))
    (NB : Blk wc ub 34 #[.int .u8 k, .int .i64 who, .int .i64 nn, .int .u64 now, .slice MA mn mc, .bool true]) (T2 : Two w wc b x s) (hub : w.heap.size ≤ ub) (K : Act → World → Prop) (Q : Exit → Act → World → Prop)
    (hK : ∀ (u18 u94 u95 u96 u97 u98 u99 u100 u101 u102 u103 u104 u105 u106 u107 u108 u109 u110 u111 u112 u113 u114 u115 u116 u117 u118 u119 u120 u121 u122 u123 u124 u125 u126 u127 u128 : Value) (wx : World), ∀ (who' nn' now' : Int) (ml' : List Int), (-9223372036854775808 ≤ who' ∧ who' ≤ 9223372036854775807) → (-9223372036854775808 ≤ nn' ∧ nn' ≤ 9223372036854775807) → (0 ≤ now' ∧ now' ≤ 18446744073709551615) →
      wx.ownsRow w.heap.size 3 1 (.slice vA mm vc) mm (ints ml') → Blk wx ub 34 #[.int .u8 k, .int .i64 who', .int .i64 nn', .int .u64 now', .slice MA mn mc, .bool true] → Two w wx b x s → K ⟨#[c0, c1, c2, c3, c4, c5, c6, c7, c8, c9, c10, c11, c12, c13, c14, .int .i64 (i : Int), .pointer (some ⟨ub, 0, none⟩), .slice vA mm vc, u18, c19, c20, c21, c22, c23, c24, c25, c26, c27, c28, c29, c30, c31, c32, c33, c34, c35, c36, c37, c38, c39, c40, c41, c42, c43, c44, c45, c46, c47, c48, c49, c50, c51, c52, c53, c54, c55, c56, c57, c58, c59, c60, c61, c62, c63, c64, c65, c66, c67, c68, c69, c70, c71, c72, c73, c74, c75, c76, c77, c78, c79, c80, c81, c82, c83, c84, c85, c86, c87, c88, c89, c90, c91, c92, .bool true, u94, u95, u96, u97, u98, u99, u100, u101, u102, u103, u104, u105, u106, u107, u108, u109, u110, u111, u112, u113, u114, u115, u116, u117, u118, u119, u120, u121, u122, u123, u124, u125, u126, u127, u128, c129, c130, c131, c132, c133, c134, c135, c136, c137, c138, c139, c140, c141, c142, c143, c144, c145, c146, c147, c148, c149, c150, c151, c152, c153, c154, c155, c156, c157, c158, c159, c160, c161, c162, c163, c164, c165, c166, c167, c168, c169, c170, c171, c172, c173, c174, c175, c176, c177, c178, c179, c180, c181, c182, c183, c184, c185, c186, c187, c188, c189, c190, c191, c192, c193, c194, c195, c196, c197, c198, c199, c200, c201, c202, c203, c204, c205, c206, c207, c208, c209, c210, c211, c212, c213, c214, c215, c216, c217, c218, c219, c220, c221, c222, c223, c224, c225, c226], []⟩ wx) :
    nearPCode.wp Try.prog (Exit.then K Q) ⟨#[c0, c1, c2, c3, c4, c5, c6, c7, c8, c9, c10, c11, c12, c13, c14, .int .i64 (i : Int), .pointer (some ⟨ub, 0, none⟩), .slice vA mm vc, c18, c19, c20, c21, c22, c23, c24, c25, c26, c27, c28, c29, c30, c31, c32, c33, c34, c35, c36, c37, c38, c39, c40, c41, c42, c43, c44, c45, c46, c47, c48, c49, c50, c51, c52, c53, c54, c55, c56, c57, c58, c59, c60, c61, c62, c63, c64, c65, c66, c67, c68, c69, c70, c71, c72, c73, c74, c75, c76, c77, c78, c79, c80, c81, c82, c83, c84, c85, c86, c87, c88, c89, c90, c91, c92, .bool true, c94, c95, c96, c97, c98, c99, c100, c101, c102, c103, c104, c105, c106, c107, c108, c109, c110, c111, c112, c113, c114, c115, c116, c117, c118, c119, c120, c121, c122, c123, c124, c125, c126, c127, c128, c129, c130, c131, c132, c133, c134, c135, c136, c137, c138, c139, c140, c141, c142, c143, c144, c145, c146, c147, c148, c149, c150, c151, c152, c153, c154, c155, c156, c157, c158, c159, c160, c161, c162, c163, c164, c165, c166, c167, c168, c169, c170, c171, c172, c173, c174, c175, c176, c177, c178, c179, c180, c181, c182, c183, c184, c185, c186, c187, c188, c189, c190, c191, c192, c193, c194, c195, c196, c197, c198, c199, c200, c201, c202, c203, c204, c205, c206, c207, c208, c209, c210, c211, c212, c213, c214, c215, c216, c217, c218, c219, c220, c221, c222, c223, c224, c225, c226], []⟩ wc := by
  have hgb : ub ≠ b := blk_ne NB T2.bt (by decide)
  have hgx : ub ≠ x := blk_ne NB T2.rf (by decide)
  have bd : ∀ z : Int, -9223372036854775808 ≤ wrap64 z ∧ wrap64 z ≤ 9223372036854775807 := fun z => by unfold wrap64; omega
  have e1 := (NB.cell 1).trans rfl
  have e2 := (NB.cell 2).trans rfl
  have e3 := (NB.cell 3).trans rfl
  have f1 := NB.frozen 1
  have f2 := NB.frozen 2
  have f3 := NB.frozen 3
  have HGB := hide hgb
  have HGX := hide hgx
  have BD := hide bd
  have OWH := hide OW
  have NBH := hide NB
  have T2H := hide T2
  have HK := hide hK
  clear hgb hgx bd OW NB T2 hK
  conv => arg 2; whnf
  go_wp2_with fail
  obtain ⟨W1, hW1⟩ : ∃ W1 : World, W1 = ((wc.setCell ⟨ub, 1, none⟩ (Value.int IntKind.i64 (wrap64 ((IntKind.u64.wrap who).tmod 9)))).setCell ⟨ub, 2, none⟩ (Value.int IntKind.i64 (wrap64 ((IntKind.u64.wrap nn).tmod 12)))).setCell ⟨ub, 3, none⟩ (Value.int IntKind.u64 (↑i + now % 8)) := ⟨_, rfl⟩
  rw [← hW1]
  have g1 : wc.grownBy W1 (some ub) := by rw [hW1]; exact only_set (only_set (only_set (.refl _ _) _ _) _ _) _ _
  have nb1 : Blk W1 ub 34 #[.int .u8 k, .int .i64 (wrap64 ((IntKind.u64.wrap who).tmod 9)), .int .i64 (wrap64 ((IntKind.u64.wrap nn).tmod 12)), .int .u64 (↑i + now % 8), .slice MA mn mc, .bool true] := by
    rw [hW1]
    exact ((NBH.out.set_ 1 _).set_ 2 _).set_ 3 _
  have t1 := T2H.out.other g1 hub HGB.out.symm HGX.out.symm
  have o1 := OWH.out.kept g1 (.inr (own_blk_ne OWH.out NBH.out (by decide)))
  have NB1 := hide nb1
  have T1 := hide t1
  have O1 := hide o1
  clear hW1 g1 nb1 t1 o1 e1 e2 e3 f1 f2 f3
  go_loopg [18] (mm + 1) (fun m kk wx => ∃ j : Nat, kk = .int .i64 j ∧ j ≤ mm ∧ m = mm + 1 - j ∧ ∃ ml' : List Int, wx.ownsRow w.heap.size 3 1 (.slice vA mm vc) mm (ints ml') ∧
    Blk wx ub 34 #[.int .u8 k, .int .i64 (wrap64 ((IntKind.u64.wrap who).tmod 9)), .int .i64 (wrap64 ((IntKind.u64.wrap nn).tmod 12)), .int .u64 (↑i + now % 8), .slice MA mn mc, .bool true] ∧ Two w wx b x s)
  case atStart => exact ⟨0, rfl, by omega, by omega, _, O1.out, NB1.out, T1.out⟩
  case round =>
    obtain ⟨j, rfl, hj, rfl, ml', ow, nb, tt⟩ := hrel
    by_cases hjm : j < mm
    · have hjm' : (j : Int) < mm := by omega
      have ll : ml'.length = mm := by have := ow.1; simpa [ints] using this
      obtain ⟨g, cap, hv, hg1, hg2⟩ := ow.form (by omega)
      simp only [Value.slice.injEq, true_and] at hv
      obtain ⟨hv1, hv3⟩ := hv
      subst hv1
      subst hv3
      obtain ⟨X, hX⟩ : ∃ X : Int, X = ml'.getD j 0 := ⟨_, rfl⟩
      have cj : wr.cell? ⟨g, j, none⟩ = some (.int .i64 X) := by
        rw [ow.cellAt j (by omega), hX]
        simp [ints, List.getD, ll, hjm]
      have fj : wr.frozen? ⟨g, j, none⟩ = false := ow.frozenAt j
      have hgb : g ≠ b := by have := row_ne ow tt.bt (by decide); simpa [Value.ownBlock] using this
      have hgx : g ≠ x := by have := row_ne ow tt.rf (by decide); simpa [Value.ownBlock] using this
      have hgu : g ≠ ub := by have := own_blk_ne ow nb (by decide); simpa [Value.ownBlock] using this
      have st := fun v : Int => ow.stored j (.int .i64 v)
      have ST := hide st
      have N2 := hide nb
      have T5 := hide tt
      have G1 := hide hgb
      have G2 := hide hgx
      have G3 := hide hgu
      clear st nb tt ow hgb hgx hgu hX
      go_wp2_with fail
      go_roundg (mm + 1 - (j + 1))
      case measure => omega
      case rel =>
        have s1 := (ST.out (wrap64 ((IntKind.u64.wrap X).tmod 100))).1
        have s2 := (ST.out (wrap64 ((IntKind.u64.wrap X).tmod 100))).2
        exact ⟨j + 1, by go_num, by omega, rfl, ml'.set j (wrap64 ((IntKind.u64.wrap X).tmod 100)), by simpa [ints, List.map_set] using s1, N2.out.grown s2 (by simpa using G3.out.symm), T5.out.other s2 hg1 G1.out.symm G2.out.symm⟩
    · have hjm' : (mm : Int) ≤ j := by omega
      have O2 := hide ow
      have N2 := hide nb
      have T5 := hide tt
      clear ow nb tt
      go_wp2_with fail
      exact HK.out _ _ _ _ _ _ _ _ _ _ _ _ _ _ _ _ _ _ _ _ _ _ _ _ _ _ _ _ _ _ _ _ _ _ _ _ _ _ _ _ ml' (BD.out _) (BD.out _) ⟨by omega, by omega⟩ O2.out N2.out T5.out


end Go.Proofs.Ytonjpdidbgicgaa
