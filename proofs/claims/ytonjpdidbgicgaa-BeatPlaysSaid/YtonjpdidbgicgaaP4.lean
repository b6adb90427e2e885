/-
  Chapter 19: BeatPlays: one deed, done to both, walked through its text.
-/
import Derived.Test.YtonjpdidbgicgaaP1
import Derived.Test.YtonjpdidbgicgaaK2
import Derived.Deep.RegionHeld3
import Derived.Deep.CutBlock
namespace Go.Proofs.Ytonjpdidbgicgaa
open Go.RowKit
set_option linter.unusedVariables false

noncomputable def heardPCode : Code := codeAt ((Try.f3.body).getD .skip) [1, 1, 1, 1, 1, 1, 1, 1, 0, 1, 0, 0, 1, 0, 0, 1, 1, 1, 1, 0, 1]

set_option maxRecDepth 100000 in
set_option maxHeartbeats 4000000 in
theorem heardP {c0 c1 c2 c3 c4 c5 c6 c7 c8 c9 c10 c11 c13 c15 c18 c20 c21 c22 c23 c24 c25 c26 c27 c28 c29 c30 c31 c32 c33 c34 c35 c36 c37 c38 c39 c40 c41 c42 c43 c44 c45 c46 c47 c48 c49 c50 c51 c52 c53 c54 c55 c56 c57 c58 c59 c60 c61 c62 c63 c64 c65 c66 c67 c68 c69 c70 c71 c72 c73 c74 c75 c76 c77 c78 c79 c80 c81 c82 c83 c84 c85 c86 c87 c88 c89 c90 c91 c92 c93 c94 c95 c96 c97 c98 c99 c100 c101 c102 c103 c104 c105 c106 c107 c108 c109 c110 c111 c112 c113 c114 c115 c116 c117 c118 c119 c120 c121 c122 c123 c124 c125 c126 c127 c128 c129 c130 c132 c133 c134 c135 c136 c137 c138 c139 c140 c141 c142 c143 c144 c145 c146 c147 c148 c149 c150 c151 c152 c153 c154 c155 c156 c157 c158 c159 c160 c161 c162 c163 c164 c165 c166 c167 c168 c169 c170 c171 c172 c173 c174 c175 c176 c177 c178 c179 c180 c181 c182 c183 c184 c185 c186 c187 c188 c189 c190 c191 c192 c193 c194 c195 c196 c197 c198 c199 c200 c201 c202 c203 c204 c205 c206 c207 c208 c209 c210 c211 c212 c213 c214 c215 c216 c217 c218 c219 c220 c221 c222 c223 c224 c225 c226 : Value} (w wc : World) (b x ub mm mn mc vc : Nat) (vA MA : Option Addr) (k who nn now : Int) (ml : List Int) (nr : Bool) (s : BSt)
    (hm : mm ≤ 9) (bt : 0 ≤ now ∧ now ≤ 18446744073709551615) (OW : wc.ownsRow w.heap.size 3 1 (.slice vA mm vc) mm (ints ml))
    (NB : Blk wc ub 34 #[.int .u8 k, .int .i64 who, .int .i64 nn, .int .u64 now, .slice MA mn mc, .bool nr]) (T2 : Two w wc b x s) (K : Act → World → Prop) (Q : Exit → Act → World → Prop)
    (hK : ∀ (u132 u133 u134 u135 u136 u137 u138 u139 u140 u141 u142 u143 u144 u145 u146 u147 u148 u149 u150 u151 u152 u153 u154 u155 u156 u157 u158 u159 u160 u161 u162 u163 u164 u165 u166 u167 u168 u169 u170 u171 : Value) (wx : World), ∀ (s' : BSt), Blk wx ub 34 #[.int .u8 k, .int .i64 who, .int .i64 nn, .int .u64 now, .slice MA mn mc, .bool nr] → Two w wx b x s' → K ⟨#[c0, c1, c2, c3, c4, c5, c6, c7, c8, c9, c10, c11, .pointer (some ⟨b, 0, none⟩), c13, .pointer (some ⟨x, 0, none⟩), c15, .pointer (some ⟨ub, 0, none⟩), .slice vA mm vc, c18, .bool true, c20, c21, c22, c23, c24, c25, c26, c27, c28, c29, c30, c31, c32, c33, c34, c35, c36, c37, c38, c39, c40, c41, c42, c43, c44, c45, c46, c47, c48, c49, c50, c51, c52, c53, c54, c55, c56, c57, c58, c59, c60, c61, c62, c63, c64, c65, c66, c67, c68, c69, c70, c71, c72, c73, c74, c75, c76, c77, c78, c79, c80, c81, c82, c83, c84, c85, c86, c87, c88, c89, c90, c91, c92, c93, c94, c95, c96, c97, c98, c99, c100, c101, c102, c103, c104, c105, c106, c107, c108, c109, c110, c111, c112, c113, c114, c115, c116, c117, c118, c119, c120, c121, c122, c123, c124, c125, c126, c127, c128, c129, c130, .int .u8 0, u132, u133, u134, u135, u136, u137, u138, u139, u140, u141, u142, u143, u144, u145, u146, u147, u148, u149, u150, u151, u152, u153, u154, u155, u156, u157, u158, u159, u160, u161, u162, u163, u164, u165, u166, u167, u168, u169, u170, u171, c172, c173, c174, c175, c176, c177, c178, c179, c180, c181, c182, c183, c184, c185, c186, c187, c188, c189, c190, c191, c192, c193, c194, c195, c196, c197, c198, c199, c200, c201, c202, c203, c204, c205, c206, c207, c208, c209, c210, c211, c212, c213, c214, c215, c216, c217, c218, c219, c220, c221, c222, c223, c224, c225, c226], []⟩ wx) :
    heardPCode.wp Try.prog (Exit.then K Q) ⟨#[c0, c1, c2, c3, c4, c5, c6, c7, c8, c9, c10, c11, .pointer (some ⟨b, 0, none⟩), c13, .pointer (some ⟨x, 0, none⟩), c15, .pointer (some ⟨ub, 0, none⟩), .slice vA mm vc, c18, .bool true, c20, c21, c22, c23, c24, c25, c26, c27, c28, c29, c30, c31, c32, c33, c34, c35, c36, c37, c38, c39, c40, c41, c42, c43, c44, c45, c46, c47, c48, c49, c50, c51, c52, c53, c54, c55, c56, c57, c58, c59, c60, c61, c62, c63, c64, c65, c66, c67, c68, c69, c70, c71, c72, c73, c74, c75, c76, c77, c78, c79, c80, c81, c82, c83, c84, c85, c86, c87, c88, c89, c90, c91, c92, c93, c94, c95, c96, c97, c98, c99, c100, c101, c102, c103, c104, c105, c106, c107, c108, c109, c110, c111, c112, c113, c114, c115, c116, c117, c118, c119, c120, c121, c122, c123, c124, c125, c126, c127, c128, c129, c130, .int .u8 0, c132, c133, c134, c135, c136, c137, c138, c139, c140, c141, c142, c143, c144, c145, c146, c147, c148, c149, c150, c151, c152, c153, c154, c155, c156, c157, c158, c159, c160, c161, c162, c163, c164, c165, c166, c167, c168, c169, c170, c171, c172, c173, c174, c175, c176, c177, c178, c179, c180, c181, c182, c183, c184, c185, c186, c187, c188, c189, c190, c191, c192, c193, c194, c195, c196, c197, c198, c199, c200, c201, c202, c203, c204, c205, c206, c207, c208, c209, c210, c211, c212, c213, c214, c215, c216, c217, c218, c219, c220, c221, c222, c223, c224, c225, c226], []⟩ wc := by
  have hgb : ub ≠ b := blk_ne NB T2.bt (by decide)
  have hgx : ub ≠ x := blk_ne NB T2.rf (by decide)
  have e1 := (NB.cell 1).trans rfl
  have e2 := (NB.cell 2).trans rfl
  have e3 := (NB.cell 3).trans rfl
  have HGB := hide hgb
  have HGX := hide hgx
  have OWH := hide OW
  have NBH := hide NB
  have T2H := hide T2
  have HK := hide hK
  clear hgb hgx OW NB T2 hK
  conv => arg 2; whnf
  go_wp2_with fail
  go_region_held3 (fun w' => w'.cell? ⟨ub, 1, none⟩ = some (.int .i64 who) ∧ w'.cell? ⟨ub, 3, none⟩ = some (.int .u64 now)) (first | exact ⟨e1, e3⟩ | exact ⟨g1, g3⟩ | exact ⟨k1, k3⟩)
    (first
      | (go_at_call 11; refine (two_heard w _ b x s _ _ T2H.out.drew).mono ?_; rintro e w1 ⟨rfl, hb1, hr1, hl1, ho1⟩; have nb1 := ho1.blk NBH.out.drew HGB.out HGX.out; have g1 := (nb1.cell 1).trans rfl; have g3 := (nb1.cell 3).trans rfl)
      | (go_at_call 12; refine (two_rheard w _ b x s _ _ _ hr1 hb1 hl1 T2H.out.ok T2H.out.gx T2H.out.ne).mono ?_; rintro e w2 ⟨rfl, hb2, hr2, hl2, ho2⟩; have nb2 := ho2.blk nb1 HGB.out HGX.out; have k1 := (nb2.cell 1).trans rfl; have k3 := (nb2.cell 3).trans rfl))
  go_wp2_with fail
  exact HK.out _ _ _ _ _ _ _ _ _ _ _ _ _ _ _ _ _ _ _ _ _ _ _ _ _ _ _ _ _ _ _ _ _ _ _ _ _ _ _ _ _ _ nb2 ⟨hl2, hb2, hr2, T2H.out.ok.heard bt.1 bt.2, T2H.out.gb, T2H.out.gx, T2H.out.ne⟩

noncomputable def heardP1Code : Code := codeAt ((Try.f3.body).getD .skip) [1, 1, 1, 1, 1, 1, 1, 1, 0, 1, 0, 0, 1, 0, 0, 1, 1, 1, 1, 0, 1]

set_option maxRecDepth 100000 in
set_option maxHeartbeats 4000000 in
theorem heardP1 {c0 c1 c2 c3 c4 c5 c6 c7 c8 c9 c10 c11 c13 c15 c18 c20 c21 c22 c23 c24 c25 c26 c27 c28 c29 c30 c31 c32 c33 c34 c35 c36 c37 c38 c39 c40 c41 c42 c43 c44 c45 c46 c47 c48 c49 c50 c51 c52 c53 c54 c55 c56 c57 c58 c59 c60 c61 c62 c63 c64 c65 c66 c67 c68 c69 c70 c71 c72 c73 c74 c75 c76 c77 c78 c79 c80 c81 c82 c83 c84 c85 c86 c87 c88 c89 c90 c91 c92 c93 c94 c95 c96 c97 c98 c99 c100 c101 c102 c103 c104 c105 c106 c107 c108 c109 c110 c111 c112 c113 c114 c115 c116 c117 c118 c119 c120 c121 c122 c123 c124 c125 c126 c127 c128 c129 c130 c132 c133 c134 c135 c136 c137 c138 c139 c140 c141 c142 c143 c144 c145 c146 c147 c148 c149 c150 c151 c152 c153 c154 c155 c156 c157 c158 c159 c160 c161 c162 c163 c164 c165 c166 c167 c168 c169 c170 c171 c172 c173 c174 c175 c176 c177 c178 c179 c180 c181 c182 c183 c184 c185 c186 c187 c188 c189 c190 c191 c192 c193 c194 c195 c196 c197 c198 c199 c200 c201 c202 c203 c204 c205 c206 c207 c208 c209 c210 c211 c212 c213 c214 c215 c216 c217 c218 c219 c220 c221 c222 c223 c224 c225 c226 : Value} (w wc : World) (b x ub mm mn mc vc : Nat) (vA MA : Option Addr) (k who nn now : Int) (ml : List Int) (nr : Bool) (s : BSt)
    (hm : mm ≤ 9) (bt : 0 ≤ now ∧ now ≤ 18446744073709551615) (OW : wc.ownsRow w.heap.size 3 1 (.slice vA mm vc) mm (ints ml))
    (NB : Blk wc ub 34 #[.int .u8 k, .int .i64 who, .int .i64 nn, .int .u64 now, .slice MA mn mc, .bool nr]) (T2 : Two w wc b x s) (K : Act → World → Prop) (Q : Exit → Act → World → Prop)
    (hK : ∀ (u132 u133 u134 u135 u136 u137 u138 u139 u140 u141 u142 u143 u144 u145 u146 u147 u148 u149 u150 u151 u152 u153 u154 u155 u156 u157 u158 u159 u160 u161 u162 u163 u164 u165 u166 u167 u168 u169 u170 u171 : Value) (wx : World), ∀ (s' : BSt), Blk wx ub 34 #[.int .u8 k, .int .i64 who, .int .i64 nn, .int .u64 now, .slice MA mn mc, .bool nr] → Two w wx b x s' → K ⟨#[c0, c1, c2, c3, c4, c5, c6, c7, c8, c9, c10, c11, .pointer (some ⟨b, 0, none⟩), c13, .pointer (some ⟨x, 0, none⟩), c15, .pointer (some ⟨ub, 0, none⟩), .slice vA mm vc, c18, .bool true, c20, c21, c22, c23, c24, c25, c26, c27, c28, c29, c30, c31, c32, c33, c34, c35, c36, c37, c38, c39, c40, c41, c42, c43, c44, c45, c46, c47, c48, c49, c50, c51, c52, c53, c54, c55, c56, c57, c58, c59, c60, c61, c62, c63, c64, c65, c66, c67, c68, c69, c70, c71, c72, c73, c74, c75, c76, c77, c78, c79, c80, c81, c82, c83, c84, c85, c86, c87, c88, c89, c90, c91, c92, c93, c94, c95, c96, c97, c98, c99, c100, c101, c102, c103, c104, c105, c106, c107, c108, c109, c110, c111, c112, c113, c114, c115, c116, c117, c118, c119, c120, c121, c122, c123, c124, c125, c126, c127, c128, c129, c130, .int .u8 1, u132, u133, u134, u135, u136, u137, u138, u139, u140, u141, u142, u143, u144, u145, u146, u147, u148, u149, u150, u151, u152, u153, u154, u155, u156, u157, u158, u159, u160, u161, u162, u163, u164, u165, u166, u167, u168, u169, u170, u171, c172, c173, c174, c175, c176, c177, c178, c179, c180, c181, c182, c183, c184, c185, c186, c187, c188, c189, c190, c191, c192, c193, c194, c195, c196, c197, c198, c199, c200, c201, c202, c203, c204, c205, c206, c207, c208, c209, c210, c211, c212, c213, c214, c215, c216, c217, c218, c219, c220, c221, c222, c223, c224, c225, c226], []⟩ wx) :
    heardP1Code.wp Try.prog (Exit.then K Q) ⟨#[c0, c1, c2, c3, c4, c5, c6, c7, c8, c9, c10, c11, .pointer (some ⟨b, 0, none⟩), c13, .pointer (some ⟨x, 0, none⟩), c15, .pointer (some ⟨ub, 0, none⟩), .slice vA mm vc, c18, .bool true, c20, c21, c22, c23, c24, c25, c26, c27, c28, c29, c30, c31, c32, c33, c34, c35, c36, c37, c38, c39, c40, c41, c42, c43, c44, c45, c46, c47, c48, c49, c50, c51, c52, c53, c54, c55, c56, c57, c58, c59, c60, c61, c62, c63, c64, c65, c66, c67, c68, c69, c70, c71, c72, c73, c74, c75, c76, c77, c78, c79, c80, c81, c82, c83, c84, c85, c86, c87, c88, c89, c90, c91, c92, c93, c94, c95, c96, c97, c98, c99, c100, c101, c102, c103, c104, c105, c106, c107, c108, c109, c110, c111, c112, c113, c114, c115, c116, c117, c118, c119, c120, c121, c122, c123, c124, c125, c126, c127, c128, c129, c130, .int .u8 1, c132, c133, c134, c135, c136, c137, c138, c139, c140, c141, c142, c143, c144, c145, c146, c147, c148, c149, c150, c151, c152, c153, c154, c155, c156, c157, c158, c159, c160, c161, c162, c163, c164, c165, c166, c167, c168, c169, c170, c171, c172, c173, c174, c175, c176, c177, c178, c179, c180, c181, c182, c183, c184, c185, c186, c187, c188, c189, c190, c191, c192, c193, c194, c195, c196, c197, c198, c199, c200, c201, c202, c203, c204, c205, c206, c207, c208, c209, c210, c211, c212, c213, c214, c215, c216, c217, c218, c219, c220, c221, c222, c223, c224, c225, c226], []⟩ wc := by
  have hgb : ub ≠ b := blk_ne NB T2.bt (by decide)
  have hgx : ub ≠ x := blk_ne NB T2.rf (by decide)
  have e1 := (NB.cell 1).trans rfl
  have e2 := (NB.cell 2).trans rfl
  have e3 := (NB.cell 3).trans rfl
  have HGB := hide hgb
  have HGX := hide hgx
  have OWH := hide OW
  have NBH := hide NB
  have T2H := hide T2
  have HK := hide hK
  clear hgb hgx OW NB T2 hK
  conv => arg 2; whnf
  go_wp2_with fail
  go_region_held3 (fun w' => w'.cell? ⟨ub, 1, none⟩ = some (.int .i64 who) ∧ w'.cell? ⟨ub, 3, none⟩ = some (.int .u64 now)) (first | exact ⟨e1, e3⟩ | exact ⟨g1, g3⟩ | exact ⟨k1, k3⟩)
    (first
      | (go_at_call 11; refine (two_heard w _ b x s _ _ T2H.out.drew).mono ?_; rintro e w1 ⟨rfl, hb1, hr1, hl1, ho1⟩; have nb1 := ho1.blk NBH.out.drew HGB.out HGX.out; have g1 := (nb1.cell 1).trans rfl; have g3 := (nb1.cell 3).trans rfl)
      | (go_at_call 12; refine (two_rheard w _ b x s _ _ _ hr1 hb1 hl1 T2H.out.ok T2H.out.gx T2H.out.ne).mono ?_; rintro e w2 ⟨rfl, hb2, hr2, hl2, ho2⟩; have nb2 := ho2.blk nb1 HGB.out HGX.out; have k1 := (nb2.cell 1).trans rfl; have k3 := (nb2.cell 3).trans rfl))
  go_wp2_with fail
  exact HK.out _ _ _ _ _ _ _ _ _ _ _ _ _ _ _ _ _ _ _ _ _ _ _ _ _ _ _ _ _ _ _ _ _ _ _ _ _ _ _ _ _ _ nb2 ⟨hl2, hb2, hr2, T2H.out.ok.heard bt.1 bt.2, T2H.out.gb, T2H.out.gx, T2H.out.ne⟩

noncomputable def markPCode : Code := codeAt ((Try.f3.body).getD .skip) [1, 1, 1, 1, 1, 1, 1, 1, 0, 1, 0, 0, 1, 0, 0, 1, 1, 1, 1, 0, 1]

set_option maxRecDepth 100000 in
set_option maxHeartbeats 4000000 in
theorem markP {c0 c1 c2 c3 c4 c5 c6 c7 c8 c9 c10 c11 c13 c15 c18 c20 c21 c22 c23 c24 c25 c26 c27 c28 c29 c30 c31 c32 c33 c34 c35 c36 c37 c38 c39 c40 c41 c42 c43 c44 c45 c46 c47 c48 c49 c50 c51 c52 c53 c54 c55 c56 c57 c58 c59 c60 c61 c62 c63 c64 c65 c66 c67 c68 c69 c70 c71 c72 c73 c74 c75 c76 c77 c78 c79 c80 c81 c82 c83 c84 c85 c86 c87 c88 c89 c90 c91 c92 c93 c94 c95 c96 c97 c98 c99 c100 c101 c102 c103 c104 c105 c106 c107 c108 c109 c110 c111 c112 c113 c114 c115 c116 c117 c118 c119 c120 c121 c122 c123 c124 c125 c126 c127 c128 c129 c130 c132 c133 c134 c135 c136 c137 c138 c139 c140 c141 c142 c143 c144 c145 c146 c147 c148 c149 c150 c151 c152 c153 c154 c155 c156 c157 c158 c159 c160 c161 c162 c163 c164 c165 c166 c167 c168 c169 c170 c171 c172 c173 c174 c175 c176 c177 c178 c179 c180 c181 c182 c183 c184 c185 c186 c187 c188 c189 c190 c191 c192 c193 c194 c195 c196 c197 c198 c199 c200 c201 c202 c203 c204 c205 c206 c207 c208 c209 c210 c211 c212 c213 c214 c215 c216 c217 c218 c219 c220 c221 c222 c223 c224 c225 c226 : Value} (w wc : World) (b x ub mm mn mc vc : Nat) (vA MA : Option Addr) (k who nn now : Int) (ml : List Int) (nr : Bool) (s : BSt)
    (hm : mm ≤ 9) (bt : 0 ≤ now ∧ now ≤ 18446744073709551615) (OW : wc.ownsRow w.heap.size 3 1 (.slice vA mm vc) mm (ints ml))
    (NB : Blk wc ub 34 #[.int .u8 k, .int .i64 who, .int .i64 nn, .int .u64 now, .slice MA mn mc, .bool nr]) (T2 : Two w wc b x s) (K : Act → World → Prop) (Q : Exit → Act → World → Prop)
    (hK : ∀ (u132 u133 u134 u135 u136 u137 u138 u139 u140 u141 u142 u143 u144 u145 u146 u147 u148 u149 u150 u151 u152 u153 u154 u155 u156 u157 u158 u159 u160 u161 u162 u163 u164 u165 u166 u167 u168 u169 u170 u171 : Value) (wx : World), ∀ (s' : BSt), Blk wx ub 34 #[.int .u8 k, .int .i64 who, .int .i64 nn, .int .u64 now, .slice MA mn mc, .bool nr] → Two w wx b x s' → K ⟨#[c0, c1, c2, c3, c4, c5, c6, c7, c8, c9, c10, c11, .pointer (some ⟨b, 0, none⟩), c13, .pointer (some ⟨x, 0, none⟩), c15, .pointer (some ⟨ub, 0, none⟩), .slice vA mm vc, c18, .bool true, c20, c21, c22, c23, c24, c25, c26, c27, c28, c29, c30, c31, c32, c33, c34, c35, c36, c37, c38, c39, c40, c41, c42, c43, c44, c45, c46, c47, c48, c49, c50, c51, c52, c53, c54, c55, c56, c57, c58, c59, c60, c61, c62, c63, c64, c65, c66, c67, c68, c69, c70, c71, c72, c73, c74, c75, c76, c77, c78, c79, c80, c81, c82, c83, c84, c85, c86, c87, c88, c89, c90, c91, c92, c93, c94, c95, c96, c97, c98, c99, c100, c101, c102, c103, c104, c105, c106, c107, c108, c109, c110, c111, c112, c113, c114, c115, c116, c117, c118, c119, c120, c121, c122, c123, c124, c125, c126, c127, c128, c129, c130, .int .u8 2, u132, u133, u134, u135, u136, u137, u138, u139, u140, u141, u142, u143, u144, u145, u146, u147, u148, u149, u150, u151, u152, u153, u154, u155, u156, u157, u158, u159, u160, u161, u162, u163, u164, u165, u166, u167, u168, u169, u170, u171, c172, c173, c174, c175, c176, c177, c178, c179, c180, c181, c182, c183, c184, c185, c186, c187, c188, c189, c190, c191, c192, c193, c194, c195, c196, c197, c198, c199, c200, c201, c202, c203, c204, c205, c206, c207, c208, c209, c210, c211, c212, c213, c214, c215, c216, c217, c218, c219, c220, c221, c222, c223, c224, c225, c226], []⟩ wx) :
    markPCode.wp Try.prog (Exit.then K Q) ⟨#[c0, c1, c2, c3, c4, c5, c6, c7, c8, c9, c10, c11, .pointer (some ⟨b, 0, none⟩), c13, .pointer (some ⟨x, 0, none⟩), c15, .pointer (some ⟨ub, 0, none⟩), .slice vA mm vc, c18, .bool true, c20, c21, c22, c23, c24, c25, c26, c27, c28, c29, c30, c31, c32, c33, c34, c35, c36, c37, c38, c39, c40, c41, c42, c43, c44, c45, c46, c47, c48, c49, c50, c51, c52, c53, c54, c55, c56, c57, c58, c59, c60, c61, c62, c63, c64, c65, c66, c67, c68, c69, c70, c71, c72, c73, c74, c75, c76, c77, c78, c79, c80, c81, c82, c83, c84, c85, c86, c87, c88, c89, c90, c91, c92, c93, c94, c95, c96, c97, c98, c99, c100, c101, c102, c103, c104, c105, c106, c107, c108, c109, c110, c111, c112, c113, c114, c115, c116, c117, c118, c119, c120, c121, c122, c123, c124, c125, c126, c127, c128, c129, c130, .int .u8 2, c132, c133, c134, c135, c136, c137, c138, c139, c140, c141, c142, c143, c144, c145, c146, c147, c148, c149, c150, c151, c152, c153, c154, c155, c156, c157, c158, c159, c160, c161, c162, c163, c164, c165, c166, c167, c168, c169, c170, c171, c172, c173, c174, c175, c176, c177, c178, c179, c180, c181, c182, c183, c184, c185, c186, c187, c188, c189, c190, c191, c192, c193, c194, c195, c196, c197, c198, c199, c200, c201, c202, c203, c204, c205, c206, c207, c208, c209, c210, c211, c212, c213, c214, c215, c216, c217, c218, c219, c220, c221, c222, c223, c224, c225, c226], []⟩ wc := by
  have hgb : ub ≠ b := blk_ne NB T2.bt (by decide)
  have hgx : ub ≠ x := blk_ne NB T2.rf (by decide)
  have e1 := (NB.cell 1).trans rfl
  have e2 := (NB.cell 2).trans rfl
  have e3 := (NB.cell 3).trans rfl
  have HGB := hide hgb
  have HGX := hide hgx
  have OWH := hide OW
  have NBH := hide NB
  have T2H := hide T2
  have HK := hide hK
  clear hgb hgx OW NB T2 hK
  conv => arg 2; whnf
  go_wp2_with fail
  go_region_held3 (fun w' => w'.cell? ⟨ub, 1, none⟩ = some (.int .i64 who) ∧ w'.cell? ⟨ub, 2, none⟩ = some (.int .i64 nn)) (first | exact ⟨e1, e2⟩ | exact ⟨g1, g3⟩ | exact ⟨k1, k3⟩)
    (first
      | (go_at_call 13; refine (two_mark w _ b x s _ _ T2H.out.drew).mono ?_; rintro e w1 ⟨rfl, hb1, hr1, hl1, ho1⟩; have nb1 := ho1.blk NBH.out.drew HGB.out HGX.out; have g1 := (nb1.cell 1).trans rfl; have g3 := (nb1.cell 2).trans rfl)
      | (go_at_call 14; refine (two_rmark w _ b x s _ _ _ hr1 hb1 hl1 T2H.out.ok T2H.out.gx T2H.out.ne).mono ?_; rintro e w2 ⟨rfl, hb2, hr2, hl2, ho2⟩; have nb2 := ho2.blk nb1 HGB.out HGX.out; have k1 := (nb2.cell 1).trans rfl; have k3 := (nb2.cell 2).trans rfl))
  go_wp2_with fail
  exact HK.out _ _ _ _ _ _ _ _ _ _ _ _ _ _ _ _ _ _ _ _ _ _ _ _ _ _ _ _ _ _ _ _ _ _ _ _ _ _ _ _ _ _ nb2 ⟨hl2, hb2, hr2, T2H.out.ok.mark _ _, T2H.out.gb, T2H.out.gx, T2H.out.ne⟩

noncomputable def takePCode : Code := codeAt ((Try.f3.body).getD .skip) [1, 1, 1, 1, 1, 1, 1, 1, 0, 1, 0, 0, 1, 0, 0, 1, 1, 1, 1, 0, 1]

set_option maxRecDepth 100000 in
set_option maxHeartbeats 4000000 in
theorem takeP {c0 c1 c2 c3 c4 c5 c6 c7 c8 c9 c10 c11 c13 c15 c18 c20 c21 c22 c23 c24 c25 c26 c27 c28 c29 c30 c31 c32 c33 c34 c35 c36 c37 c38 c39 c40 c41 c42 c43 c44 c45 c46 c47 c48 c49 c50 c51 c52 c53 c54 c55 c56 c57 c58 c59 c60 c61 c62 c63 c64 c65 c66 c67 c68 c69 c70 c71 c72 c73 c74 c75 c76 c77 c78 c79 c80 c81 c82 c83 c84 c85 c86 c87 c88 c89 c90 c91 c92 c93 c94 c95 c96 c97 c98 c99 c100 c101 c102 c103 c104 c105 c106 c107 c108 c109 c110 c111 c112 c113 c114 c115 c116 c117 c118 c119 c120 c121 c122 c123 c124 c125 c126 c127 c128 c129 c130 c132 c133 c134 c135 c136 c137 c138 c139 c140 c141 c142 c143 c144 c145 c146 c147 c148 c149 c150 c151 c152 c153 c154 c155 c156 c157 c158 c159 c160 c161 c162 c163 c164 c165 c166 c167 c168 c169 c170 c171 c172 c173 c174 c175 c176 c177 c178 c179 c180 c181 c182 c183 c184 c185 c186 c187 c188 c189 c190 c191 c192 c193 c194 c195 c196 c197 c198 c199 c200 c201 c202 c203 c204 c205 c206 c207 c208 c209 c210 c211 c212 c213 c214 c215 c216 c217 c218 c219 c220 c221 c222 c223 c224 c225 c226 : Value} (w wc : World) (b x ub mm mn mc vc : Nat) (vA MA : Option Addr) (k who nn now : Int) (ml : List Int) (nr : Bool) (s : BSt)
    (hm : mm ≤ 9) (bt : 0 ≤ now ∧ now ≤ 18446744073709551615) (OW : wc.ownsRow w.heap.size 3 1 (.slice vA mm vc) mm (ints ml))
    (NB : Blk wc ub 34 #[.int .u8 k, .int .i64 who, .int .i64 nn, .int .u64 now, .slice MA mn mc, .bool nr]) (T2 : Two w wc b x s) (K : Act → World → Prop) (Q : Exit → Act → World → Prop)
    (hK : ∀ (u132 u133 u134 u135 u136 u137 u138 u139 u140 u141 u142 u143 u144 u145 u146 u147 u148 u149 u150 u151 u152 u153 u154 u155 u156 u157 u158 u159 u160 u161 u162 u163 u164 u165 u166 u167 u168 u169 u170 u171 : Value) (wx : World), ∀ (s' : BSt), Blk wx ub 34 #[.int .u8 k, .int .i64 who, .int .i64 nn, .int .u64 now, .slice MA mn mc, .bool nr] → Two w wx b x s' → K ⟨#[c0, c1, c2, c3, c4, c5, c6, c7, c8, c9, c10, c11, .pointer (some ⟨b, 0, none⟩), c13, .pointer (some ⟨x, 0, none⟩), c15, .pointer (some ⟨ub, 0, none⟩), .slice vA mm vc, c18, .bool true, c20, c21, c22, c23, c24, c25, c26, c27, c28, c29, c30, c31, c32, c33, c34, c35, c36, c37, c38, c39, c40, c41, c42, c43, c44, c45, c46, c47, c48, c49, c50, c51, c52, c53, c54, c55, c56, c57, c58, c59, c60, c61, c62, c63, c64, c65, c66, c67, c68, c69, c70, c71, c72, c73, c74, c75, c76, c77, c78, c79, c80, c81, c82, c83, c84, c85, c86, c87, c88, c89, c90, c91, c92, c93, c94, c95, c96, c97, c98, c99, c100, c101, c102, c103, c104, c105, c106, c107, c108, c109, c110, c111, c112, c113, c114, c115, c116, c117, c118, c119, c120, c121, c122, c123, c124, c125, c126, c127, c128, c129, c130, .int .u8 3, u132, u133, u134, u135, u136, u137, u138, u139, u140, u141, u142, u143, u144, u145, u146, u147, u148, u149, u150, u151, u152, u153, u154, u155, u156, u157, u158, u159, u160, u161, u162, u163, u164, u165, u166, u167, u168, u169, u170, u171, c172, c173, c174, c175, c176, c177, c178, c179, c180, c181, c182, c183, c184, c185, c186, c187, c188, c189, c190, c191, c192, c193, c194, c195, c196, c197, c198, c199, c200, c201, c202, c203, c204, c205, c206, c207, c208, c209, c210, c211, c212, c213, c214, c215, c216, c217, c218, c219, c220, c221, c222, c223, c224, c225, c226], []⟩ wx) :
    takePCode.wp Try.prog (Exit.then K Q) ⟨#[c0, c1, c2, c3, c4, c5, c6, c7, c8, c9, c10, c11, .pointer (some ⟨b, 0, none⟩), c13, .pointer (some ⟨x, 0, none⟩), c15, .pointer (some ⟨ub, 0, none⟩), .slice vA mm vc, c18, .bool true, c20, c21, c22, c23, c24, c25, c26, c27, c28, c29, c30, c31, c32, c33, c34, c35, c36, c37, c38, c39, c40, c41, c42, c43, c44, c45, c46, c47, c48, c49, c50, c51, c52, c53, c54, c55, c56, c57, c58, c59, c60, c61, c62, c63, c64, c65, c66, c67, c68, c69, c70, c71, c72, c73, c74, c75, c76, c77, c78, c79, c80, c81, c82, c83, c84, c85, c86, c87, c88, c89, c90, c91, c92, c93, c94, c95, c96, c97, c98, c99, c100, c101, c102, c103, c104, c105, c106, c107, c108, c109, c110, c111, c112, c113, c114, c115, c116, c117, c118, c119, c120, c121, c122, c123, c124, c125, c126, c127, c128, c129, c130, .int .u8 3, c132, c133, c134, c135, c136, c137, c138, c139, c140, c141, c142, c143, c144, c145, c146, c147, c148, c149, c150, c151, c152, c153, c154, c155, c156, c157, c158, c159, c160, c161, c162, c163, c164, c165, c166, c167, c168, c169, c170, c171, c172, c173, c174, c175, c176, c177, c178, c179, c180, c181, c182, c183, c184, c185, c186, c187, c188, c189, c190, c191, c192, c193, c194, c195, c196, c197, c198, c199, c200, c201, c202, c203, c204, c205, c206, c207, c208, c209, c210, c211, c212, c213, c214, c215, c216, c217, c218, c219, c220, c221, c222, c223, c224, c225, c226], []⟩ wc := by
  have hgb : ub ≠ b := blk_ne NB T2.bt (by decide)
  have hgx : ub ≠ x := blk_ne NB T2.rf (by decide)
  have e1 := (NB.cell 1).trans rfl
  have e2 := (NB.cell 2).trans rfl
  have e3 := (NB.cell 3).trans rfl
  have HGB := hide hgb
  have HGX := hide hgx
  have OWH := hide OW
  have NBH := hide NB
  have T2H := hide T2
  have HK := hide hK
  clear hgb hgx OW NB T2 hK
  conv => arg 2; whnf
  have vb : ∀ ad, vA = some ad → ad.block ≠ b := by
    intro ad e; have := row_ne OWH.out T2H.out.bt (by decide); subst e; simpa [Value.ownBlock] using this
  have vx : ∀ ad, vA = some ad → ad.block ≠ x := by
    intro ad e; have := row_ne OWH.out T2H.out.rf (by decide); subst e; simpa [Value.ownBlock] using this
  have VB := hide vb
  have VX := hide vx
  clear vb vx
  go_wp2_with fail
  refine (take_any b s vA mm vc ml _ T2H.out.bt T2H.out.ok (Reads.of_own OWH.out) VB.out (by omega)).mono ?_
  rintro e w1 ⟨v1, rfl, ho1, hb1, hg1⟩
  have hr1 : IsRef w1 x s := T2H.out.rf.keep hg1 (by simpa using T2H.out.ne.symm)
  have hl1 : Below w.heap.size w w1 := below_only T2H.out.bel hg1 T2H.out.bel.size T2H.out.gb
  have nb1 := (OnlyTwo.left (x := x) hg1).blk NBH.out HGB.out HGX.out
  have ow1 := (OnlyTwo.left (x := x) hg1).own OWH.out (row_ne OWH.out T2H.out.bt (by decide)) (row_ne OWH.out T2H.out.rf (by decide))
  have HO1 := hide ho1
  have HB1 := hide hb1
  have HR1 := hide hr1
  have HL1 := hide hl1
  have N1 := hide nb1
  have OW1 := hide ow1
  clear ho1 hb1 hg1 hr1 hl1 nb1 ow1
  go_wp2_with fail
  refine (rtake_any x s vA mm vc ml _ HR1.out T2H.out.ok (Reads.of_own OW1.out) VX.out (by omega)).mono ?_
  rintro e w2 ⟨v2, rfl, ho2, hr2, hg2⟩
  have hb2 : IsBeat w2 b (takeS s ml (ownB s ml)) := HB1.out.keep hg2 (by simpa using T2H.out.ne)
  have hl2 : Below w.heap.size w w2 := below_only HL1.out hg2 HL1.out.size T2H.out.gx
  have nb2 := (OnlyTwo.right (b := b) hg2).blk N1.out HGB.out HGX.out
  have ho3 := (OnlyTwo.right (b := b) hg2).own HO1.out (row_ne HO1.out HB1.out (by decide)) (row_ne HO1.out HR1.out (by decide))
  have T3 : Two w w2 b x (takeS s ml (ownB s ml)) := ⟨hl2, hb2, hr2, takeS_Ok T2H.out.ok ml _, T2H.out.gb, T2H.out.gx, T2H.out.ne⟩
  have len : (takeL s ml (ownB s ml)).length ≤ 65536 := by
    have := takeL_length_le s ml (ownB s ml)
    have h7 := T2H.out.ok.n7
    have : ownB s ml ≤ s.n.toNat := by unfold ownB; omega
    omega
  have sh : ∀ (v : Value) (base t n : Nat) (xs : List Value), w2.ownsRow base t 2 v n xs → ∃ A c, v = .slice A n c ∧ Heads A n := by
    intro v base t n xs h
    rcases h.2 with ⟨rfl, h0⟩ | ⟨gg, cap, cur, rfl, _⟩
    · exact ⟨_, _, by rw [h0], by intro h1; omega⟩
    · exact ⟨_, _, rfl, fun _ => ⟨gg, rfl⟩⟩
  obtain ⟨A1, c1, rfl, hA1⟩ := sh _ _ _ _ _ ho3
  obtain ⟨A2, c2, rfl, hA2⟩ := sh _ _ _ _ _ ho2
  have r1 := Reads.of_own ho3
  have r2 := Reads.of_own ho2
  obtain ⟨L, hL⟩ : ∃ L : List (Int × Int), L = takeL s ml (ownB s ml) := ⟨_, rfl⟩
  have al := alike_same A1 A2 L.length c1 c2 L w2 (by rw [hL]; exact r1) (by rw [hL]; exact r2) (by rw [hL]; exact hA1) (by rw [hL]; exact hA2) (by rw [hL]; exact len)
  rw [hL] at al
  have AL := hide al
  have N2 := hide nb2
  have T3H := hide T3
  clear ho2 hr2 hg2 hb2 hl2 nb2 ho3 T3 sh r1 r2 al hA1 hA2 hL
  go_wp2_with fail
  refine AL.out.mono ?_
  rintro e w3 ⟨rfl, nd, rfl⟩
  go_wp2_with fail
  exact HK.out _ _ _ _ _ _ _ _ _ _ _ _ _ _ _ _ _ _ _ _ _ _ _ _ _ _ _ _ _ _ _ _ _ _ _ _ _ _ _ _ _ _ (N2.out.drewN _) (T3H.out.drewN _)


end Go.Proofs.Ytonjpdidbgicgaa
