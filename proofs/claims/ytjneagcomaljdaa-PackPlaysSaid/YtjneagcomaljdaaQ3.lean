/-
  Chapter 2: PackPlays: a deed's round, walked through its text.
-/
import Derived.Test.YtjneagcomaljdaaQ2
import Derived.Deep.DeepCutAuto
namespace Go.Proofs.Ytjneagcomaljdaa
open Go.RowKit
set_option linter.unusedVariables false

theorem flagB_rest (st : ByteArray) (bd : Bool) : (flagB st bd).2.1.size ≤ st.size := by
  unfold flagB
  split
  · exact Nat.zero_le _
  · exact numB_rest st bd 1
theorem textB_rest' (s : ByteArray) (b : Bool) : (textB s b).2.1.size ≤ s.size := Nat.le_trans (bytesB_rest _ _ _) (numB_rest _ _ _)

noncomputable def deedTailCode : Code := codeAt ((Try.f3.body).getD .skip) [1, 1, 1, 1, 0, 1, 0, 0, 1, 0, 0, 1, 1]
noncomputable def deedCode : Code := codeAt ((Try.f3.body).getD .skip) [1, 1, 1, 1, 0, 1, 0, 0, 1, 0, 0]

set_option maxRecDepth 100000 in
set_option maxHeartbeats 4000000 in
theorem deedTail {c0 c2 c3 c4 c5 c7 c8 c9 c10 c11 c12 c13 c17 c18 c19 c20 c21 c22 c23 c24 c25 c26 c27 c28 c29 c30 c31 c32 c33 c34 c35 c36 c37 c38 c39 c40 c41 c42 c43 c44 c45 c46 c47 c48 c49 c50 c51 c52 c53 c54 c55 c56 c57 c58 c59 c60 c61 c62 c63 c64 c65 c66 c67 c68 c69 c70 c71 c72 c73 c74 c75 c76 c77 c78 c79 c80 c81 c82 c83 c84 c85 c86 c87 c88 c89 c90 c91 c92 c93 c94 c95 c96 c97 c98 c99 c100 c101 c102 c103 c104 c105 c106 c107 c108 c109 c110 c111 c112 c113 c114 c115 c116 c117 c118 c119 c120 c121 c122 c123 c124 c125 c126 c127 c128 c129 c130 c131 c132 c133 c134 c135 c136 c137 c138 c139 c140 c141 c142 c143 c144 c145 c146 c147 c148 c149 c150 c151 c152 c153 c154 c155 c156 c157 c158 c159 c160 c161 c162 c163 c164 c165 c166 c167 c168 c169 c170 c171 c172 c173 c174 c175 c176 c177 c178 c179 c180 c181 c182 c183 c184 c185 c186 c187 c188 c189 c190 c191 c192 c193 c194 c195 c196 c197 c198 c199 c200 c201 c202 c203 c204 c205 c206 c207 c208 c209 c210 c211 c212 c213 c214 c215 c216 c217 c218 c219 c220 c221 c222 c223 c224 c225 c226 c227 c228 c229 c230 : Value} (w wc : World) (b x i len c ab ao : Nat) (kd kk : Int) (st : ByteArray) (bd : Bool) (hi : i < len) (hl : len ≤ 9223372036854775807) (hab : ab < w.heap.size)
    (d0 : w.cell? ⟨ab, ao + i * 2, none⟩ = some (.int .u8 kd)) (b0 : 0 ≤ kd ∧ kd ≤ 255)
    (hst : st.size ≤ maxLen) (T : Rds w wc b x st bd) (K : Act → World → Prop) (Q : Exit → Act → World → Prop)
    (hK : ∀ (u17 u18 u19 u20 u21 u22 u23 u24 u25 u26 u27 u28 u29 u30 u31 u32 u33 u67 u68 u69 u70 u71 u72 u73 u74 u75 u76 u77 u78 u79 u80 u81 u82 u83 u84 u85 u86 u87 u88 u89 u90 u91 u92 u93 u94 u95 u96 u97 u98 u99 u100 u101 u102 u103 u104 u105 u106 u107 u108 u109 u110 u111 u112 u113 u114 u115 u116 u117 u118 u119 u120 u121 u122 u123 u124 u125 u126 u127 u128 u129 u130 u131 u132 u133 u134 u135 u136 u137 u138 u139 u140 u141 u142 u143 u144 u145 u146 u147 u148 u149 u150 u151 u152 u153 u154 u155 u156 u157 u158 u159 u160 u161 u162 u163 u164 u165 u166 u167 : Value) (wx : World) (st' : ByteArray) (bd' : Bool), st'.size ≤ st.size → Rds w wx b x st' bd' → K ⟨#[c0, .slice (some ⟨ab, ao, none⟩) len c, c2, c3, c4, c5, .pointer (some ⟨b, 0, none⟩), c7, c8, c9, c10, c11, c12, c13, .pointer (some ⟨x, 0, none⟩), .int .i64 (i : Int), .int .i64 kk, u17, u18, u19, u20, u21, u22, u23, u24, u25, u26, u27, u28, u29, u30, u31, u32, u33, c34, c35, c36, c37, c38, c39, c40, c41, c42, c43, c44, c45, c46, c47, c48, c49, c50, c51, c52, c53, c54, c55, c56, c57, c58, c59, c60, c61, c62, c63, c64, c65, c66, u67, u68, u69, u70, u71, u72, u73, u74, u75, u76, u77, u78, u79, u80, u81, u82, u83, u84, u85, u86, u87, u88, u89, u90, u91, u92, u93, u94, u95, u96, u97, u98, u99, u100, u101, u102, u103, u104, u105, u106, u107, u108, u109, u110, u111, u112, u113, u114, u115, u116, u117, u118, u119, u120, u121, u122, u123, u124, u125, u126, u127, u128, u129, u130, u131, u132, u133, u134, u135, u136, u137, u138, u139, u140, u141, u142, u143, u144, u145, u146, u147, u148, u149, u150, u151, u152, u153, u154, u155, u156, u157, u158, u159, u160, u161, u162, u163, u164, u165, u166, u167, c168, c169, c170, c171, c172, c173, c174, c175, c176, c177, c178, c179, c180, c181, c182, c183, c184, c185, c186, c187, c188, c189, c190, c191, c192, c193, c194, c195, c196, c197, c198, c199, c200, c201, c202, c203, c204, c205, c206, c207, c208, c209, c210, c211, c212, c213, c214, c215, c216, c217, c218, c219, c220, c221, c222, c223, c224, c225, c226, c227, c228, c229, c230], []⟩ wx) :
    deedTailCode.wp Try.prog (Exit.then K Q) ⟨#[c0, .slice (some ⟨ab, ao, none⟩) len c, c2, c3, c4, c5, .pointer (some ⟨b, 0, none⟩), c7, c8, c9, c10, c11, c12, c13, .pointer (some ⟨x, 0, none⟩), .int .i64 (i : Int), .int .i64 kk, c17, c18, c19, c20, c21, c22, c23, c24, c25, c26, c27, c28, c29, c30, c31, c32, c33, c34, c35, c36, c37, c38, c39, c40, c41, c42, c43, c44, c45, c46, c47, c48, c49, c50, c51, c52, c53, c54, c55, c56, c57, c58, c59, c60, c61, c62, c63, c64, c65, c66, c67, c68, c69, c70, c71, c72, c73, c74, c75, c76, c77, c78, c79, c80, c81, c82, c83, c84, c85, c86, c87, c88, c89, c90, c91, c92, c93, c94, c95, c96, c97, c98, c99, c100, c101, c102, c103, c104, c105, c106, c107, c108, c109, c110, c111, c112, c113, c114, c115, c116, c117, c118, c119, c120, c121, c122, c123, c124, c125, c126, c127, c128, c129, c130, c131, c132, c133, c134, c135, c136, c137, c138, c139, c140, c141, c142, c143, c144, c145, c146, c147, c148, c149, c150, c151, c152, c153, c154, c155, c156, c157, c158, c159, c160, c161, c162, c163, c164, c165, c166, c167, c168, c169, c170, c171, c172, c173, c174, c175, c176, c177, c178, c179, c180, c181, c182, c183, c184, c185, c186, c187, c188, c189, c190, c191, c192, c193, c194, c195, c196, c197, c198, c199, c200, c201, c202, c203, c204, c205, c206, c207, c208, c209, c210, c211, c212, c213, c214, c215, c216, c217, c218, c219, c220, c221, c222, c223, c224, c225, c226, c227, c228, c229, c230], []⟩ wc := by
  have HK := hide hK
  have HT := hide T
  have j1 : (i : Int) < len := by omega
  have e0 := (T.bel.cell (p := ⟨ab, ao + i * 2, none⟩) hab).trans d0
  have HST := hide hst
  clear hK T d0 hst
  have h4 : kd % 4 = 0 ∨ kd % 4 = 1 ∨ kd % 4 = 2 ∨ kd % 4 = 3 := by omega
  conv => arg 2; whnf
  rcases h4 with h4 | h4 | h4 | h4
  · go_upto_block 2 with fail
    rename_i K1 hK1
    have HK1 := hide hK1
    clear hK1
    refine wp_block_then ?_
    go_upto_if 73 with fail
    refine wp_cond_true rfl ?_
    refine readNum w wc b x st _ bd _ (numB st bd kk).1 kk (fun W => number_any st bd kk W HST.out) (fun W => rnumber_any st bd kk W HST.out) HT.out _ _ ?_
    intro y18 y19 y20 y21 y75 y76 y77 y78 y79 y80 y81 y82 y83 y84 y85 y86 y87 y88 y89 y90 y91 wy hR
    refine HK1.out _ _ ?_
    refine same w wy b x _ _ hR K _ ?_
    intro z145 z146 z147 z148 z149 z150 z151 z152 z153 z154 z155 z156 z157 z158 z159 z160 z161 z162 z163 z164 z165 z166 z167 wz hR2
    exact HK.out _ _ _ _ _ _ _ _ _ _ _ _ _ _ _ _ _ _ _ _ _ _ _ _ _ _ _ _ _ _ _ _ _ _ _ _ _ _ _ _ _ _ _ _ _ _ _ _ _ _ _ _ _ _ _ _ _ _ _ _ _ _ _ _ _ _ _ _ _ _ _ _ _ _ _ _ _ _ _ _ _ _ _ _ _ _ _ _ _ _ _ _ _ _ _ _ _ _ _ _ _ _ _ _ _ _ _ _ _ _ _ _ _ _ _ _ _ _ _ _ _ (numB_rest st bd kk) hR2
  · go_upto_block 2 with fail
    rename_i K1 hK1
    have HK1 := hide hK1
    clear hK1
    refine wp_block_then ?_
    go_upto_if 73 with fail
    refine wp_cond_false rfl ?_
    go_upto_if 92 with fail
    refine wp_cond_true rfl ?_
    refine readText w wc b x st _ bd _ (textB st bd).1 0 (fun W => text_any st bd W HST.out) (fun W => rtext_any st bd W HST.out) HT.out _ _ ?_
    intro y22 y23 y24 y25 y94 y95 y96 y97 y98 y99 y100 y101 y102 y103 y104 y105 y106 y107 y108 wy hR
    refine HK1.out _ _ ?_
    refine same w wy b x _ _ hR K _ ?_
    intro z145 z146 z147 z148 z149 z150 z151 z152 z153 z154 z155 z156 z157 z158 z159 z160 z161 z162 z163 z164 z165 z166 z167 wz hR2
    exact HK.out _ _ _ _ _ _ _ _ _ _ _ _ _ _ _ _ _ _ _ _ _ _ _ _ _ _ _ _ _ _ _ _ _ _ _ _ _ _ _ _ _ _ _ _ _ _ _ _ _ _ _ _ _ _ _ _ _ _ _ _ _ _ _ _ _ _ _ _ _ _ _ _ _ _ _ _ _ _ _ _ _ _ _ _ _ _ _ _ _ _ _ _ _ _ _ _ _ _ _ _ _ _ _ _ _ _ _ _ _ _ _ _ _ _ _ _ _ _ _ _ _ (textB_rest' st bd) hR2
  · go_upto_block 2 with fail
    rename_i K1 hK1
    have HK1 := hide hK1
    clear hK1
    refine wp_block_then ?_
    go_upto_if 73 with fail
    refine wp_cond_false rfl ?_
    go_upto_if 92 with fail
    refine wp_cond_false rfl ?_
    go_upto_if 109 with fail
    refine wp_cond_true rfl ?_
    refine readFlag w wc b x st _ bd _ (flagB st bd).1 0 (fun W => flag_any st bd W HST.out) (fun W => rflag_any st bd W HST.out) HT.out _ _ ?_
    intro y26 y27 y28 y29 y111 y112 y113 y114 y115 y116 y117 y118 y119 y120 y121 y122 y123 y124 y125 wy hR
    refine HK1.out _ _ ?_
    refine same w wy b x _ _ hR K _ ?_
    intro z145 z146 z147 z148 z149 z150 z151 z152 z153 z154 z155 z156 z157 z158 z159 z160 z161 z162 z163 z164 z165 z166 z167 wz hR2
    exact HK.out _ _ _ _ _ _ _ _ _ _ _ _ _ _ _ _ _ _ _ _ _ _ _ _ _ _ _ _ _ _ _ _ _ _ _ _ _ _ _ _ _ _ _ _ _ _ _ _ _ _ _ _ _ _ _ _ _ _ _ _ _ _ _ _ _ _ _ _ _ _ _ _ _ _ _ _ _ _ _ _ _ _ _ _ _ _ _ _ _ _ _ _ _ _ _ _ _ _ _ _ _ _ _ _ _ _ _ _ _ _ _ _ _ _ _ _ _ _ _ _ _ (flagB_rest st bd) hR2
  · go_upto_block 2 with fail
    rename_i K1 hK1
    have HK1 := hide hK1
    clear hK1
    refine wp_block_then ?_
    go_upto_if 73 with fail
    refine wp_cond_false rfl ?_
    go_upto_if 92 with fail
    refine wp_cond_false rfl ?_
    go_upto_if 109 with fail
    refine wp_cond_false rfl ?_
    go_upto_if 126 with fail
    refine wp_cond_true rfl ?_
    refine readBytes w wc b x st _ bd _ (bytesB st bd kk).1 kk (fun W => bytes_any st bd kk W HST.out) (fun W => rbytes_any st bd kk W HST.out) HT.out _ _ ?_
    intro y30 y31 y32 y33 y128 y129 y130 y131 y132 y133 y134 y135 y136 y137 y138 y139 y140 y141 y142 y143 y144 wy hR
    refine HK1.out _ _ ?_
    refine same w wy b x _ _ hR K _ ?_
    intro z145 z146 z147 z148 z149 z150 z151 z152 z153 z154 z155 z156 z157 z158 z159 z160 z161 z162 z163 z164 z165 z166 z167 wz hR2
    exact HK.out _ _ _ _ _ _ _ _ _ _ _ _ _ _ _ _ _ _ _ _ _ _ _ _ _ _ _ _ _ _ _ _ _ _ _ _ _ _ _ _ _ _ _ _ _ _ _ _ _ _ _ _ _ _ _ _ _ _ _ _ _ _ _ _ _ _ _ _ _ _ _ _ _ _ _ _ _ _ _ _ _ _ _ _ _ _ _ _ _ _ _ _ _ _ _ _ _ _ _ _ _ _ _ _ _ _ _ _ _ _ _ _ _ _ _ _ _ _ _ _ _ (bytesB_rest st bd kk) hR2

set_option maxRecDepth 100000 in
set_option maxHeartbeats 4000000 in
theorem deed {c0 c2 c3 c4 c5 c7 c8 c9 c10 c11 c12 c13 c16 c17 c18 c19 c20 c21 c22 c23 c24 c25 c26 c27 c28 c29 c30 c31 c32 c33 c34 c35 c36 c37 c38 c39 c40 c41 c42 c43 c44 c45 c46 c47 c48 c49 c50 c51 c52 c53 c54 c55 c56 c57 c58 c59 c60 c61 c62 c63 c64 c65 c66 c67 c68 c69 c70 c71 c72 c73 c74 c75 c76 c77 c78 c79 c80 c81 c82 c83 c84 c85 c86 c87 c88 c89 c90 c91 c92 c93 c94 c95 c96 c97 c98 c99 c100 c101 c102 c103 c104 c105 c106 c107 c108 c109 c110 c111 c112 c113 c114 c115 c116 c117 c118 c119 c120 c121 c122 c123 c124 c125 c126 c127 c128 c129 c130 c131 c132 c133 c134 c135 c136 c137 c138 c139 c140 c141 c142 c143 c144 c145 c146 c147 c148 c149 c150 c151 c152 c153 c154 c155 c156 c157 c158 c159 c160 c161 c162 c163 c164 c165 c166 c167 c168 c169 c170 c171 c172 c173 c174 c175 c176 c177 c178 c179 c180 c181 c182 c183 c184 c185 c186 c187 c188 c189 c190 c191 c192 c193 c194 c195 c196 c197 c198 c199 c200 c201 c202 c203 c204 c205 c206 c207 c208 c209 c210 c211 c212 c213 c214 c215 c216 c217 c218 c219 c220 c221 c222 c223 c224 c225 c226 c227 c228 c229 c230 : Value} (w wc : World) (b x i len c ab ao : Nat) (kd sz : Int) (st : ByteArray) (bd : Bool) (hi : i < len) (hl : len ≤ 9223372036854775807) (hab : ab < w.heap.size)
    (d0 : w.cell? ⟨ab, ao + i * 2, none⟩ = some (.int .u8 kd)) (d1 : w.cell? ⟨ab, ao + i * 2 + 1, none⟩ = some (.int .i64 sz)) (b0 : 0 ≤ kd ∧ kd ≤ 255) (b1 : -9223372036854775808 ≤ sz ∧ sz ≤ 9223372036854775807)
    (hst : st.size ≤ maxLen) (T : Rds w wc b x st bd) (K : Act → World → Prop) (Q : Exit → Act → World → Prop)
    (hK : ∀ (u16 u17 u18 u19 u20 u21 u22 u23 u24 u25 u26 u27 u28 u29 u30 u31 u32 u33 u57 u58 u59 u60 u61 u62 u63 u64 u65 u66 u67 u68 u69 u70 u71 u72 u73 u74 u75 u76 u77 u78 u79 u80 u81 u82 u83 u84 u85 u86 u87 u88 u89 u90 u91 u92 u93 u94 u95 u96 u97 u98 u99 u100 u101 u102 u103 u104 u105 u106 u107 u108 u109 u110 u111 u112 u113 u114 u115 u116 u117 u118 u119 u120 u121 u122 u123 u124 u125 u126 u127 u128 u129 u130 u131 u132 u133 u134 u135 u136 u137 u138 u139 u140 u141 u142 u143 u144 u145 u146 u147 u148 u149 u150 u151 u152 u153 u154 u155 u156 u157 u158 u159 u160 u161 u162 u163 u164 u165 u166 u167 : Value) (wx : World) (st' : ByteArray) (bd' : Bool), st'.size ≤ st.size → Rds w wx b x st' bd' → K ⟨#[c0, .slice (some ⟨ab, ao, none⟩) len c, c2, c3, c4, c5, .pointer (some ⟨b, 0, none⟩), c7, c8, c9, c10, c11, c12, c13, .pointer (some ⟨x, 0, none⟩), .int .i64 (i : Int), u16, u17, u18, u19, u20, u21, u22, u23, u24, u25, u26, u27, u28, u29, u30, u31, u32, u33, c34, c35, c36, c37, c38, c39, c40, c41, c42, c43, c44, c45, c46, c47, c48, c49, c50, c51, c52, c53, c54, c55, c56, u57, u58, u59, u60, u61, u62, u63, u64, u65, u66, u67, u68, u69, u70, u71, u72, u73, u74, u75, u76, u77, u78, u79, u80, u81, u82, u83, u84, u85, u86, u87, u88, u89, u90, u91, u92, u93, u94, u95, u96, u97, u98, u99, u100, u101, u102, u103, u104, u105, u106, u107, u108, u109, u110, u111, u112, u113, u114, u115, u116, u117, u118, u119, u120, u121, u122, u123, u124, u125, u126, u127, u128, u129, u130, u131, u132, u133, u134, u135, u136, u137, u138, u139, u140, u141, u142, u143, u144, u145, u146, u147, u148, u149, u150, u151, u152, u153, u154, u155, u156, u157, u158, u159, u160, u161, u162, u163, u164, u165, u166, u167, c168, c169, c170, c171, c172, c173, c174, c175, c176, c177, c178, c179, c180, c181, c182, c183, c184, c185, c186, c187, c188, c189, c190, c191, c192, c193, c194, c195, c196, c197, c198, c199, c200, c201, c202, c203, c204, c205, c206, c207, c208, c209, c210, c211, c212, c213, c214, c215, c216, c217, c218, c219, c220, c221, c222, c223, c224, c225, c226, c227, c228, c229, c230], []⟩ wx) :
    deedCode.wp Try.prog (Exit.then K Q) ⟨#[c0, .slice (some ⟨ab, ao, none⟩) len c, c2, c3, c4, c5, .pointer (some ⟨b, 0, none⟩), c7, c8, c9, c10, c11, c12, c13, .pointer (some ⟨x, 0, none⟩), .int .i64 (i : Int), c16, c17, c18, c19, c20, c21, c22, c23, c24, c25, c26, c27, c28, c29, c30, c31, c32, c33, c34, c35, c36, c37, c38, c39, c40, c41, c42, c43, c44, c45, c46, c47, c48, c49, c50, c51, c52, c53, c54, c55, c56, c57, c58, c59, c60, c61, c62, c63, c64, c65, c66, c67, c68, c69, c70, c71, c72, c73, c74, c75, c76, c77, c78, c79, c80, c81, c82, c83, c84, c85, c86, c87, c88, c89, c90, c91, c92, c93, c94, c95, c96, c97, c98, c99, c100, c101, c102, c103, c104, c105, c106, c107, c108, c109, c110, c111, c112, c113, c114, c115, c116, c117, c118, c119, c120, c121, c122, c123, c124, c125, c126, c127, c128, c129, c130, c131, c132, c133, c134, c135, c136, c137, c138, c139, c140, c141, c142, c143, c144, c145, c146, c147, c148, c149, c150, c151, c152, c153, c154, c155, c156, c157, c158, c159, c160, c161, c162, c163, c164, c165, c166, c167, c168, c169, c170, c171, c172, c173, c174, c175, c176, c177, c178, c179, c180, c181, c182, c183, c184, c185, c186, c187, c188, c189, c190, c191, c192, c193, c194, c195, c196, c197, c198, c199, c200, c201, c202, c203, c204, c205, c206, c207, c208, c209, c210, c211, c212, c213, c214, c215, c216, c217, c218, c219, c220, c221, c222, c223, c224, c225, c226, c227, c228, c229, c230], []⟩ wc := by
  have HK := hide hK
  have HT := hide T
  have j1 : (i : Int) < len := by omega
  have e1 := (T.bel.cell (p := ⟨ab, ao + i * 2 + 1, none⟩) hab).trans d1
  have HST := hide hst
  have D0 := hide d0
  clear hK T d0 d1 hst
  conv => arg 2; whnf
  by_cases q : 0 < sz.tmod 3
  · go_upto_if 64 with fail
    rename_i K1 hK1
    have HK1 := hide hK1
    clear hK1
    refine wp_cond_true (by simp [Act.eval]) ?_
    go_wp2_with fail
    refine HK1.out _ _ ?_
    refine deedTail w wc b x i len c ab ao kd _ st bd hi hl hab D0.out b0 HST.out HT.out K _ ?_
    intro y17 y18 y19 y20 y21 y22 y23 y24 y25 y26 y27 y28 y29 y30 y31 y32 y33 y67 y68 y69 y70 y71 y72 y73 y74 y75 y76 y77 y78 y79 y80 y81 y82 y83 y84 y85 y86 y87 y88 y89 y90 y91 y92 y93 y94 y95 y96 y97 y98 y99 y100 y101 y102 y103 y104 y105 y106 y107 y108 y109 y110 y111 y112 y113 y114 y115 y116 y117 y118 y119 y120 y121 y122 y123 y124 y125 y126 y127 y128 y129 y130 y131 y132 y133 y134 y135 y136 y137 y138 y139 y140 y141 y142 y143 y144 y145 y146 y147 y148 y149 y150 y151 y152 y153 y154 y155 y156 y157 y158 y159 y160 y161 y162 y163 y164 y165 y166 y167 wy st' bd' hle hR
    exact HK.out _ _ _ _ _ _ _ _ _ _ _ _ _ _ _ _ _ _ _ _ _ _ _ _ _ _ _ _ _ _ _ _ _ _ _ _ _ _ _ _ _ _ _ _ _ _ _ _ _ _ _ _ _ _ _ _ _ _ _ _ _ _ _ _ _ _ _ _ _ _ _ _ _ _ _ _ _ _ _ _ _ _ _ _ _ _ _ _ _ _ _ _ _ _ _ _ _ _ _ _ _ _ _ _ _ _ _ _ _ _ _ _ _ _ _ _ _ _ _ _ _ _ _ _ _ _ _ _ _ _ _ _ hle hR
  · have q2 : sz.tmod 3 ≤ 0 := by omega
    clear q
    go_upto_if 64 with fail
    rename_i K1 hK1
    have HK1 := hide hK1
    clear hK1
    refine wp_cond_false (by simp [q2, Act.eval]) ?_
    go_wp2_with fail
    refine HK1.out _ _ ?_
    refine deedTail w wc b x i len c ab ao kd _ st bd hi hl hab D0.out b0 HST.out HT.out K _ ?_
    intro y17 y18 y19 y20 y21 y22 y23 y24 y25 y26 y27 y28 y29 y30 y31 y32 y33 y67 y68 y69 y70 y71 y72 y73 y74 y75 y76 y77 y78 y79 y80 y81 y82 y83 y84 y85 y86 y87 y88 y89 y90 y91 y92 y93 y94 y95 y96 y97 y98 y99 y100 y101 y102 y103 y104 y105 y106 y107 y108 y109 y110 y111 y112 y113 y114 y115 y116 y117 y118 y119 y120 y121 y122 y123 y124 y125 y126 y127 y128 y129 y130 y131 y132 y133 y134 y135 y136 y137 y138 y139 y140 y141 y142 y143 y144 y145 y146 y147 y148 y149 y150 y151 y152 y153 y154 y155 y156 y157 y158 y159 y160 y161 y162 y163 y164 y165 y166 y167 wy st' bd' hle hR
    exact HK.out _ _ _ _ _ _ _ _ _ _ _ _ _ _ _ _ _ _ _ _ _ _ _ _ _ _ _ _ _ _ _ _ _ _ _ _ _ _ _ _ _ _ _ _ _ _ _ _ _ _ _ _ _ _ _ _ _ _ _ _ _ _ _ _ _ _ _ _ _ _ _ _ _ _ _ _ _ _ _ _ _ _ _ _ _ _ _ _ _ _ _ _ _ _ _ _ _ _ _ _ _ _ _ _ _ _ _ _ _ _ _ _ _ _ _ _ _ _ _ _ _ _ _ _ _ _ _ _ _ _ _ _ hle hR

end Go.Proofs.Ytjneagcomaljdaa
