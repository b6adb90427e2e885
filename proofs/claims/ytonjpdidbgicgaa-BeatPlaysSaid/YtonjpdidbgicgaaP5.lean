/-
  Chapter 19: BeatPlays: what both tell behind a deed is the same, walked through its text.
-/
import Derived.Test.YtonjpdidbgicgaaP1
import Derived.Test.YtonjpdidbgicgaaK2
import Derived.Deep.RegionHeld3
import Derived.Deep.CutBlock
namespace Go.Proofs.Ytonjpdidbgicgaa
open Go.RowKit
set_option linter.unusedVariables false

noncomputable def tailPCode : Code := codeAt ((Try.f3.body).getD .skip) [1, 1, 1, 1, 1, 1, 1, 1, 0, 1, 0, 0, 1, 0, 0, 1, 1, 1, 1, 1]

set_option maxRecDepth 100000 in
set_option maxHeartbeats 4000000 in
theorem tailP {c0 c1 c2 c3 c4 c5 c6 c7 c8 c9 c10 c11 c13 c15 c17 c18 c20 c21 c22 c23 c24 c25 c26 c27 c28 c29 c30 c31 c32 c33 c34 c35 c36 c37 c38 c39 c40 c41 c42 c43 c44 c45 c46 c47 c48 c49 c50 c51 c52 c53 c54 c55 c56 c57 c58 c59 c60 c61 c62 c63 c64 c65 c66 c67 c68 c69 c70 c71 c72 c73 c74 c75 c76 c77 c78 c79 c80 c81 c82 c83 c84 c85 c86 c87 c88 c89 c90 c91 c92 c93 c94 c95 c96 c97 c98 c99 c100 c101 c102 c103 c104 c105 c106 c107 c108 c109 c110 c111 c112 c113 c114 c115 c116 c117 c118 c119 c120 c121 c122 c123 c124 c125 c126 c127 c128 c129 c130 c131 c132 c133 c134 c135 c136 c137 c138 c139 c140 c141 c142 c143 c144 c145 c146 c147 c148 c149 c150 c151 c152 c153 c154 c155 c156 c157 c158 c159 c160 c161 c162 c163 c164 c165 c166 c167 c168 c169 c170 c171 c172 c173 c174 c175 c176 c177 c178 c179 c180 c181 c182 c183 c184 c185 c186 c187 c188 c189 c190 c191 c192 c193 c194 c195 c196 c197 c198 c199 c200 c201 c202 c203 c204 c205 c206 c207 c208 c209 c210 c211 c212 c213 c214 c215 c216 c217 c218 c219 c220 c221 c222 c223 c224 c225 c226 : Value} (w wc : World) (b x ub mn mc : Nat) (MA : Option Addr) (k who nn now : Int) (nr : Bool) (s : BSt)
    (bt : 0 ≤ now ∧ now ≤ 18446744073709551615)
    (NB : Blk wc ub 34 #[.int .u8 k, .int .i64 who, .int .i64 nn, .int .u64 now, .slice MA mn mc, .bool nr]) (T2 : Two w wc b x s) (K : Act → World → Prop) (Q : Exit → Act → World → Prop)
    (hK : ∀ (u10 u20 u21 u22 u172 u173 u174 u175 u176 u177 u178 u179 u180 u181 u182 u183 u184 u185 u186 u187 u188 u189 u190 u191 u192 u193 u194 u195 u196 u197 u198 u199 u200 u201 u202 u203 u204 u205 u206 u207 u208 u209 u210 u211 u212 u213 u214 u215 u216 u217 u218 u219 u220 u221 u222 u223 u224 u225 : Value) (wx : World), Two w wx b x s → K ⟨#[c0, c1, c2, c3, c4, c5, c6, c7, c8, c9, u10, c11, .pointer (some ⟨b, 0, none⟩), c13, .pointer (some ⟨x, 0, none⟩), c15, .pointer (some ⟨ub, 0, none⟩), c17, c18, .bool true, u20, u21, u22, c23, c24, c25, c26, c27, c28, c29, c30, c31, c32, c33, c34, c35, c36, c37, c38, c39, c40, c41, c42, c43, c44, c45, c46, c47, c48, c49, c50, c51, c52, c53, c54, c55, c56, c57, c58, c59, c60, c61, c62, c63, c64, c65, c66, c67, c68, c69, c70, c71, c72, c73, c74, c75, c76, c77, c78, c79, c80, c81, c82, c83, c84, c85, c86, c87, c88, c89, c90, c91, c92, c93, c94, c95, c96, c97, c98, c99, c100, c101, c102, c103, c104, c105, c106, c107, c108, c109, c110, c111, c112, c113, c114, c115, c116, c117, c118, c119, c120, c121, c122, c123, c124, c125, c126, c127, c128, c129, c130, c131, c132, c133, c134, c135, c136, c137, c138, c139, c140, c141, c142, c143, c144, c145, c146, c147, c148, c149, c150, c151, c152, c153, c154, c155, c156, c157, c158, c159, c160, c161, c162, c163, c164, c165, c166, c167, c168, c169, c170, c171, u172, u173, u174, u175, u176, u177, u178, u179, u180, u181, u182, u183, u184, u185, u186, u187, u188, u189, u190, u191, u192, u193, u194, u195, u196, u197, u198, u199, u200, u201, u202, u203, u204, u205, u206, u207, u208, u209, u210, u211, u212, u213, u214, u215, u216, u217, u218, u219, u220, u221, u222, u223, u224, u225, c226], []⟩ wx) :
    tailPCode.wp Try.prog (Exit.then K Q) ⟨#[c0, c1, c2, c3, c4, c5, c6, c7, c8, c9, c10, c11, .pointer (some ⟨b, 0, none⟩), c13, .pointer (some ⟨x, 0, none⟩), c15, .pointer (some ⟨ub, 0, none⟩), c17, c18, .bool true, c20, c21, c22, c23, c24, c25, c26, c27, c28, c29, c30, c31, c32, c33, c34, c35, c36, c37, c38, c39, c40, c41, c42, c43, c44, c45, c46, c47, c48, c49, c50, c51, c52, c53, c54, c55, c56, c57, c58, c59, c60, c61, c62, c63, c64, c65, c66, c67, c68, c69, c70, c71, c72, c73, c74, c75, c76, c77, c78, c79, c80, c81, c82, c83, c84, c85, c86, c87, c88, c89, c90, c91, c92, c93, c94, c95, c96, c97, c98, c99, c100, c101, c102, c103, c104, c105, c106, c107, c108, c109, c110, c111, c112, c113, c114, c115, c116, c117, c118, c119, c120, c121, c122, c123, c124, c125, c126, c127, c128, c129, c130, c131, c132, c133, c134, c135, c136, c137, c138, c139, c140, c141, c142, c143, c144, c145, c146, c147, c148, c149, c150, c151, c152, c153, c154, c155, c156, c157, c158, c159, c160, c161, c162, c163, c164, c165, c166, c167, c168, c169, c170, c171, c172, c173, c174, c175, c176, c177, c178, c179, c180, c181, c182, c183, c184, c185, c186, c187, c188, c189, c190, c191, c192, c193, c194, c195, c196, c197, c198, c199, c200, c201, c202, c203, c204, c205, c206, c207, c208, c209, c210, c211, c212, c213, c214, c215, c216, c217, c218, c219, c220, c221, c222, c223, c224, c225, c226], []⟩ wc := by
  have e1 := (NB.cell 1).trans rfl
  have e3 := (NB.cell 3).trans rfl
  have NBH := hide NB
  have T2H := hide T2
  have HK := hide hK
  clear NB T2 hK e1 e3
  conv => arg 2; whnf
  go_wp2_with fail
  obtain ⟨M, hM⟩ : ∃ M : Nat, s.n.toNat = M := ⟨_, rfl⟩
  have tm := two_marks w _ b x s T2H.out
  rw [hM] at tm
  have M1 : M ≤ 7 := by have := T2H.out.ok.n7; omega
  have HM := hide hM
  have TM := hide tm
  clear hM tm
  refine TM.out.mono ?_
  rintro e w1 ⟨g1, p1, rfl, ho1, hb1, ht1⟩
  have N1 := hide (NBH.out.below hb1 NBH.out.lt)
  have O1 := hide ho1
  have T1 := hide ht1
  clear ho1 hb1 ht1
  go_wp2_with fail
  have tm := two_rmarks w _ b x s T1.out
  rw [HM.out] at tm
  have TM2 := hide tm
  clear tm
  refine TM2.out.mono ?_
  rintro e w2 ⟨g2, p2, rfl, ho2, hb2, ht2⟩
  have N2 := hide (N1.out.below hb2 N1.out.lt)
  have O2 := hide ho2
  have O3 := hide (O1.out.kept (below_grown_none hb2) (.inr (by simp [Value.ownBlock])))
  have T3 := hide ht2
  have e1 := (N2.out.cell 1).trans rfl
  have e3 := (N2.out.cell 3).trans rfl
  clear ho2 hb2 ht2
  go_wp2_with fail
  go_quiet ((first | (go_at_call 20; exact Calls.quiet_of (two_alive w _ b x s _ _ (T3.out.drewN _) bt.1 bt.2)) | (go_at_call 21; exact Calls.quiet_of (two_ralive w _ b x s _ _ (T3.out.drewN _) bt.1 bt.2))))
  go_wp2_with fail
  have O2N := hide (show (w2.drewN nq).ownsRow _ 3 1 (.slice (some ⟨g2, 0, none⟩) M p2) M (ints s.marks) from O2.out)
  have O3N := hide (show (w2.drewN nq).ownsRow _ 3 1 (.slice (some ⟨g1, 0, none⟩) M p1) M (ints s.marks) from O3.out)
  have T3N := hide (T3.out.drewN nq)
  clear e1 e3
  obtain ⟨W, hW⟩ : ∃ W : World, W = w2.drewN nq := ⟨_, rfl⟩
  rw [← hW] at O2N O3N T3N ⊢
  clear hW
  go_loopg [22] (M + 1) (fun mm i wr => ∃ j d : Nat, i = .int .i64 j ∧ j ≤ M ∧ mm = M + 1 - j ∧ wr = W.drewN d)
  case atStart => exact ⟨0, 0, rfl, by omega, by omega, rfl⟩
  case round =>
    obtain ⟨j, d, rfl, hj, rfl, rfl⟩ := hrel
    by_cases hlt : j < M
    · have hlt' : (j : Int) < M := by omega
      obtain ⟨X, hX⟩ : ∃ X : Value, X = (ints s.marks).getD j undef := ⟨_, rfl⟩
      have hl : (ints s.marks).length = M := by have := O2N.out.1; omega
      obtain ⟨Y, hY⟩ : ∃ Y : Int, (ints s.marks)[j]? = some (.int .i64 Y) := by
        have : j < s.marks.length := by simpa [ints, hl] using (show j < (ints s.marks).length by omega)
        exact ⟨s.marks[j], by simp [ints, this]⟩
      have a1 : W.cell? ⟨g1, j, none⟩ = some (.int .i64 Y) := (O3N.out.cellAt j (by omega)).trans hY
      have a2 : W.cell? ⟨g2, j, none⟩ = some (.int .i64 Y) := (O2N.out.cellAt j (by omega)).trans hY
      clear hX hY hl
      go_wp2_with fail
      go_quiet (fail)
      go_wp2_with fail
      go_roundg (M + 1 - (j + 1))
      case measure => omega
      case rel => exact ⟨j + 1, _, by go_num, by omega, rfl, rfl⟩
    · have hge : (M : Int) ≤ j := by omega
      go_wp2_with fail
      exact HK.out _ _ _ _ _ _ _ _ _ _ _ _ _ _ _ _ _ _ _ _ _ _ _ _ _ _ _ _ _ _ _ _ _ _ _ _ _ _ _ _ _ _ _ _ _ _ _ _ _ _ _ _ _ _ _ _ _ _ _ (T3N.out.drewN _)


end Go.Proofs.Ytonjpdidbgicgaa
