/-
  Chapter 2: PackPlays: what is compared behind a deed, walked through its text.
-/
import Derived.Test.YtjneagcomaljdaaQ1
namespace Go.Proofs.Ytjneagcomaljdaa
open Go.RowKit
set_option linter.unusedVariables false

noncomputable def sameCode : Code := codeAt ((Try.f3.body).getD .skip) [1, 1, 1, 1, 0, 1, 0, 0, 1, 0, 0, 1, 1, 1, 1]

set_option maxRecDepth 100000 in
set_option maxHeartbeats 4000000 in
theorem same {c0 c1 c2 c3 c4 c5 c7 c8 c9 c10 c11 c12 c13 c15 c16 c18 c19 c20 c21 c22 c23 c24 c25 c26 c27 c28 c29 c30 c31 c32 c33 c34 c35 c36 c37 c38 c39 c40 c41 c42 c43 c44 c45 c46 c47 c48 c49 c50 c51 c52 c53 c54 c55 c56 c57 c58 c59 c60 c61 c62 c63 c64 c65 c66 c67 c68 c69 c70 c71 c72 c73 c74 c75 c76 c77 c78 c79 c80 c81 c82 c83 c84 c85 c86 c87 c88 c89 c90 c91 c92 c93 c94 c95 c96 c97 c98 c99 c100 c101 c102 c103 c104 c105 c106 c107 c108 c109 c110 c111 c112 c113 c114 c115 c116 c117 c118 c119 c120 c121 c122 c123 c124 c125 c126 c127 c128 c129 c130 c131 c132 c133 c134 c135 c136 c137 c138 c139 c140 c141 c142 c143 c144 c145 c146 c147 c148 c149 c150 c151 c152 c153 c154 c155 c156 c157 c158 c159 c160 c161 c162 c163 c164 c165 c166 c167 c168 c169 c170 c171 c172 c173 c174 c175 c176 c177 c178 c179 c180 c181 c182 c183 c184 c185 c186 c187 c188 c189 c190 c191 c192 c193 c194 c195 c196 c197 c198 c199 c200 c201 c202 c203 c204 c205 c206 c207 c208 c209 c210 c211 c212 c213 c214 c215 c216 c217 c218 c219 c220 c221 c222 c223 c224 c225 c226 c227 c228 c229 c230 : Value} (w wc : World) (b x : Nat) (st : ByteArray) (bd : Bool)
    (T : Rds w wc b x st bd) (K : Act → World → Prop) (Q : Exit → Act → World → Prop)
    (hK : ∀ (u145 u146 u147 u148 u149 u150 u151 u152 u153 u154 u155 u156 u157 u158 u159 u160 u161 u162 u163 u164 u165 u166 u167 : Value) (wx : World), Rds w wx b x st bd → K ⟨#[c0, c1, c2, c3, c4, c5, .pointer (some ⟨b, 0, none⟩), c7, c8, c9, c10, c11, c12, c13, .pointer (some ⟨x, 0, none⟩), c15, c16, .bool true, c18, c19, c20, c21, c22, c23, c24, c25, c26, c27, c28, c29, c30, c31, c32, c33, c34, c35, c36, c37, c38, c39, c40, c41, c42, c43, c44, c45, c46, c47, c48, c49, c50, c51, c52, c53, c54, c55, c56, c57, c58, c59, c60, c61, c62, c63, c64, c65, c66, c67, c68, c69, c70, c71, c72, c73, c74, c75, c76, c77, c78, c79, c80, c81, c82, c83, c84, c85, c86, c87, c88, c89, c90, c91, c92, c93, c94, c95, c96, c97, c98, c99, c100, c101, c102, c103, c104, c105, c106, c107, c108, c109, c110, c111, c112, c113, c114, c115, c116, c117, c118, c119, c120, c121, c122, c123, c124, c125, c126, c127, c128, c129, c130, c131, c132, c133, c134, c135, c136, c137, c138, c139, c140, c141, c142, c143, c144, u145, u146, u147, u148, u149, u150, u151, u152, u153, u154, u155, u156, u157, u158, u159, u160, u161, u162, u163, u164, u165, u166, u167, c168, c169, c170, c171, c172, c173, c174, c175, c176, c177, c178, c179, c180, c181, c182, c183, c184, c185, c186, c187, c188, c189, c190, c191, c192, c193, c194, c195, c196, c197, c198, c199, c200, c201, c202, c203, c204, c205, c206, c207, c208, c209, c210, c211, c212, c213, c214, c215, c216, c217, c218, c219, c220, c221, c222, c223, c224, c225, c226, c227, c228, c229, c230], []⟩ wx) :
    sameCode.wp Try.prog (Exit.then K Q) ⟨#[c0, c1, c2, c3, c4, c5, .pointer (some ⟨b, 0, none⟩), c7, c8, c9, c10, c11, c12, c13, .pointer (some ⟨x, 0, none⟩), c15, c16, .bool true, c18, c19, c20, c21, c22, c23, c24, c25, c26, c27, c28, c29, c30, c31, c32, c33, c34, c35, c36, c37, c38, c39, c40, c41, c42, c43, c44, c45, c46, c47, c48, c49, c50, c51, c52, c53, c54, c55, c56, c57, c58, c59, c60, c61, c62, c63, c64, c65, c66, c67, c68, c69, c70, c71, c72, c73, c74, c75, c76, c77, c78, c79, c80, c81, c82, c83, c84, c85, c86, c87, c88, c89, c90, c91, c92, c93, c94, c95, c96, c97, c98, c99, c100, c101, c102, c103, c104, c105, c106, c107, c108, c109, c110, c111, c112, c113, c114, c115, c116, c117, c118, c119, c120, c121, c122, c123, c124, c125, c126, c127, c128, c129, c130, c131, c132, c133, c134, c135, c136, c137, c138, c139, c140, c141, c142, c143, c144, c145, c146, c147, c148, c149, c150, c151, c152, c153, c154, c155, c156, c157, c158, c159, c160, c161, c162, c163, c164, c165, c166, c167, c168, c169, c170, c171, c172, c173, c174, c175, c176, c177, c178, c179, c180, c181, c182, c183, c184, c185, c186, c187, c188, c189, c190, c191, c192, c193, c194, c195, c196, c197, c198, c199, c200, c201, c202, c203, c204, c205, c206, c207, c208, c209, c210, c211, c212, c213, c214, c215, c216, c217, c218, c219, c220, c221, c222, c223, c224, c225, c226, c227, c228, c229, c230], []⟩ wc := by
  have HK := hide hK
  have HT := hide T.drew
  have e1 := (HT.out.kb.cell 0).trans rfl
  have e2 := (HT.out.kb.cell 1).trans rfl
  have e3 := (HT.out.kx.cell 0).trans rfl
  have e4 := (HT.out.kx.cell 1).trans rfl
  clear hK T
  conv => arg 2; whnf
  go_wp2_with fail
  go_region_held3 (fun w' => w'.cell? ⟨b, 0, none⟩ = some (.string st) ∧ w'.cell? ⟨b, 1, none⟩ = some (.bool bd) ∧ w'.cell? ⟨x, 0, none⟩ = some (.string st) ∧ w'.cell? ⟨x, 1, none⟩ = some (.bool bd)) (first | exact ⟨e1, e2, e3, e4⟩ | exact ⟨f1, f2, f3, f4⟩ | exact ⟨g1, g2, g3, g4⟩)
    (first
      | (go_at_call 16; refine (done_any st bd _).mono ?_; rintro e w1 ⟨rfl, hb1⟩; have t1 := HT.out.below hb1 (Nat.le_refl _); have f1 := (t1.kb.cell 0).trans rfl; have f2 := (t1.kb.cell 1).trans rfl; have f3 := (t1.kx.cell 0).trans rfl; have f4 := (t1.kx.cell 1).trans rfl)
      | (go_at_call 17; refine (rdone_any st bd _).mono ?_; rintro e w2 ⟨rfl, hb2⟩; have t2 := t1.below hb2 (Nat.le_refl _); have g1 := (t2.kb.cell 0).trans rfl; have g2 := (t2.kb.cell 1).trans rfl; have g3 := (t2.kx.cell 0).trans rfl; have g4 := (t2.kx.cell 1).trans rfl))
  go_wp2_with fail
  exact HK.out _ _ _ _ _ _ _ _ _ _ _ _ _ _ _ _ _ _ _ _ _ _ _ _ t2

end Go.Proofs.Ytjneagcomaljdaa
