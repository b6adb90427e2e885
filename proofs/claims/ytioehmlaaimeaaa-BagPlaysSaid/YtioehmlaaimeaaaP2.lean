/-
  Chapter 21: BagPlays: the tail of a round; a round.
-/
import Derived.Test.YtioehmlaaimeaaaP1
namespace Go.Proofs.Ytioehmlaaimeaaa
open Go.RowKit
set_option linter.unusedVariables false

noncomputable def playTailCode : Code := codeAt ((Try.f3.body).getD .skip) [1, 1, 1, 1, 1, 1, 1, 1, 0, 1, 0, 0, 1, 0, 0, 1, 1, 1]
set_option maxRecDepth 100000 in
set_option maxHeartbeats 20000000 in
theorem playTail {c0 c1 c2 c3 c4 c5 c6 c7 c9 c11 c12 c14 c15 c16 c17 c18 c19 c20 c21 c22 c23 c24 c25 c26 c27 c28 c29 c30 c31 c32 c33 c34 c35 c36 c37 c38 c39 c40 c41 c42 c43 c44 c45 c46 c47 c48 c49 c50 c51 c52 c53 c54 c55 c56 c57 c58 c59 c60 c61 c62 c63 c64 c65 c66 c67 c68 c69 c70 c71 c72 c73 c74 c75 c76 c77 c78 c79 c80 c81 c82 c83 c84 c85 c86 c87 c88 c89 c90 c91 c92 c93 c94 c95 c96 c97 c98 c99 c100 c101 c102 c103 c104 c105 c106 c107 c108 c109 c110 c111 c112 c113 c114 c115 c116 c117 c118 c119 c120 c121 c122 c123 c124 c125 c126 c127 c128 c129 c130 c131 c132 c133 c134 c135 c136 c137 c138 c139 c140 c141 c142 c143 c144 c145 c146 c147 c148 c149 c150 c151 c152 c153 c154 c155 c156 c157 c158 c159 c160 c161 c162 c163 c164 c165 c166 c167 c168 c169 c170 c171 c172 c173 c174 c175 c176 c177 c178 c179 c180 c181 c182 c183 c184 c185 c186 c187 c188 c189 c190 c191 c192 c193 c194 c195 c196 c197 c198 c199 c200 c201 c202 c203 c204 c205 : Value} (w wr : World) (b x : Nat) (room : Int) (l : List It) (KK : List Kept)
    (hP : PW w wr b l x l room KK) (K : Act → World → Prop) (Q : Exit → Act → World → Prop)
    (hK : ∀ (u6 u18 u19 u20 u21 u132 u133 u134 u135 u136 u137 u138 u139 u140 u141 u142 u143 u144 u145 u146 u147 u148 u149 u150 u151 u152 u153 u154 u155 u156 u157 u158 u159 u160 u161 u162 u163 u164 : Value) (wx : World), PW w wx b l x l room [] → K ⟨#[c0, c1, c2, c3, c4, c5, u6, c7, .pointer (some ⟨b, 0, none⟩), c9, .pointer (some ⟨x, 0, none⟩), c11, c12, .bool true, c14, c15, c16, c17, u18, u19, u20, u21, c22, c23, c24, c25, c26, c27, c28, c29, c30, c31, c32, c33, c34, c35, c36, c37, c38, c39, c40, c41, c42, c43, c44, c45, c46, c47, c48, c49, c50, c51, c52, c53, c54, c55, c56, c57, c58, c59, c60, c61, c62, c63, c64, c65, c66, c67, c68, c69, c70, c71, c72, c73, c74, c75, c76, c77, c78, c79, c80, c81, c82, c83, c84, c85, c86, c87, c88, c89, c90, c91, c92, c93, c94, c95, c96, c97, c98, c99, c100, c101, c102, c103, c104, c105, c106, c107, c108, c109, c110, c111, c112, c113, c114, c115, c116, c117, c118, c119, c120, c121, c122, c123, c124, c125, c126, c127, c128, c129, c130, c131, u132, u133, u134, u135, u136, u137, u138, u139, u140, u141, u142, u143, u144, u145, u146, u147, u148, u149, u150, u151, u152, u153, u154, u155, u156, u157, u158, u159, u160, u161, u162, u163, u164, c165, c166, c167, c168, c169, c170, c171, c172, c173, c174, c175, c176, c177, c178, c179, c180, c181, c182, c183, c184, c185, c186, c187, c188, c189, c190, c191, c192, c193, c194, c195, c196, c197, c198, c199, c200, c201, c202, c203, c204, c205], []⟩ wx) :
    playTailCode.wp Try.prog (Exit.then K Q) ⟨#[c0, c1, c2, c3, c4, c5, c6, c7, .pointer (some ⟨b, 0, none⟩), c9, .pointer (some ⟨x, 0, none⟩), c11, c12, .bool true, c14, c15, c16, c17, c18, c19, c20, c21, c22, c23, c24, c25, c26, c27, c28, c29, c30, c31, c32, c33, c34, c35, c36, c37, c38, c39, c40, c41, c42, c43, c44, c45, c46, c47, c48, c49, c50, c51, c52, c53, c54, c55, c56, c57, c58, c59, c60, c61, c62, c63, c64, c65, c66, c67, c68, c69, c70, c71, c72, c73, c74, c75, c76, c77, c78, c79, c80, c81, c82, c83, c84, c85, c86, c87, c88, c89, c90, c91, c92, c93, c94, c95, c96, c97, c98, c99, c100, c101, c102, c103, c104, c105, c106, c107, c108, c109, c110, c111, c112, c113, c114, c115, c116, c117, c118, c119, c120, c121, c122, c123, c124, c125, c126, c127, c128, c129, c130, c131, c132, c133, c134, c135, c136, c137, c138, c139, c140, c141, c142, c143, c144, c145, c146, c147, c148, c149, c150, c151, c152, c153, c154, c155, c156, c157, c158, c159, c160, c161, c162, c163, c164, c165, c166, c167, c168, c169, c170, c171, c172, c173, c174, c175, c176, c177, c178, c179, c180, c181, c182, c183, c184, c185, c186, c187, c188, c189, c190, c191, c192, c193, c194, c195, c196, c197, c198, c199, c200, c201, c202, c203, c204, c205], []⟩ wr := by
  have HK := hide hK
  have HP := hide hP
  clear hK hP
  obtain ⟨z, ok, hO⟩ : ∃ z ok, oldR l = (z, ok) := ⟨_, _, rfl⟩
  have HO := hide hO
  have hq38 := fun (W : World) => neq_ritem z z W
  have hgd := fun (op : BinOp) (o1 o2 : Operand) (xs ys : Array Value) (W : World) => guard_ritem op o1 o2 xs ys W
  have hse := eqIt_self z
  clear hO
  conv => arg 2; whnf
  go_wp2_with fail
  refine (pw_oldest HP.out HO.out).mono ?_
  rintro e w1 ⟨rfl, h1⟩
  have H1 := hide (h1.push #[.int .i64 z.fr, .int .i64 z.to, .string z.by_, .int .u64 z.at_] 33)
  clear h1
  go_wp2_with fail
  refine (pw_roldest H1.out HO.out).mono ?_
  rintro e w2 ⟨rfl, h2⟩
  have h3 := h2.push #[.int .i64 z.fr, .int .i64 z.to, .string z.by_, .int .u64 z.at_] 38
  have H3 := hide h3
  have ka := h3.kept (.tail _ (.head _))
  have kb := h3.kept (.head _)
  have la := ka.lt
  have lb := kb.lt
  have a0 := (ka.cell 0).trans rfl
  have a1 := (ka.cell 1).trans rfl
  have a2 := (ka.cell 2).trans rfl
  have a3 := (ka.cell 3).trans rfl
  have r0 := (kb.cell 0).trans rfl
  have r1 := (kb.cell 1).trans rfl
  have r2 := (kb.cell 2).trans rfl
  have r3 := (kb.cell 3).trans rfl
  obtain ⟨A, c, hx, _⟩ := h3.field
  have lx := World.block_lt_of_cell? _ _ hx
  clear h2 h3 ka kb
  go_wp2_with fail
  go_region_held3 (fun w' => w'.cell? ⟨x, 0, none⟩ = some (.slice A l.length c) ∧ w'.cell? ⟨w1.heap.size, 0, none⟩ = some (.int .i64 z.fr) ∧ w'.cell? ⟨w1.heap.size, 1, none⟩ = some (.int .i64 z.to) ∧ w'.cell? ⟨w1.heap.size, 2, none⟩ = some (.string z.by_) ∧ w'.cell? ⟨w1.heap.size, 3, none⟩ = some (.int .u64 z.at_) ∧ w'.cell? ⟨w2.heap.size, 0, none⟩ = some (.int .i64 z.fr) ∧ w'.cell? ⟨w2.heap.size, 1, none⟩ = some (.int .i64 z.to) ∧ w'.cell? ⟨w2.heap.size, 2, none⟩ = some (.string z.by_) ∧ w'.cell? ⟨w2.heap.size, 3, none⟩ = some (.int .u64 z.at_)) (first | exact ⟨hx, a0, a1, a2, a3, r0, r1, r2, r3⟩ | exact ⟨ex, d0, d1, d2, d3, f0, f1, f2, f3⟩)
    (first
      | (go_at_call 22; refine (pw_len H3.out.drew).mono ?_; rintro e w4 ⟨rfl, rfl⟩)
      | (go_at_call 12; refine (ref_any z _).mono ?_; rintro e w4 ⟨rfl, hb4⟩; have ex := (hb4.cell (p := ⟨x, 0, none⟩) lx).trans hx; have d0 := (hb4.cell (p := ⟨w1.heap.size, 0, none⟩) la).trans a0; have d1 := (hb4.cell (p := ⟨w1.heap.size, 1, none⟩) la).trans a1; have d2 := (hb4.cell (p := ⟨w1.heap.size, 2, none⟩) la).trans a2; have d3 := (hb4.cell (p := ⟨w1.heap.size, 3, none⟩) la).trans a3; have f0 := (hb4.cell (p := ⟨w2.heap.size, 0, none⟩) lb).trans r0; have f1 := (hb4.cell (p := ⟨w2.heap.size, 1, none⟩) lb).trans r1; have f2 := (hb4.cell (p := ⟨w2.heap.size, 2, none⟩) lb).trans r2; have f3 := (hb4.cell (p := ⟨w2.heap.size, 3, none⟩) lb).trans r3))
  go_wp2_with fail
  exact HK.out _ _ _ _ _ _ _ _ _ _ _ _ _ _ _ _ _ _ _ _ _ _ _ _ _ _ _ _ _ _ _ _ _ _ _ _ _ _ _ ((H3.out.drew.below hb4).less (fun q hq => by cases hq))
noncomputable def playPassCode : Code := codeAt ((Try.f3.body).getD .skip) [1, 1, 1, 1, 1, 1, 1, 1, 0, 1, 0, 0, 1, 0, 0]
set_option maxRecDepth 100000 in
set_option maxHeartbeats 20000000 in
theorem playPass {c0 c1 c3 c4 c5 c6 c7 c9 c12 c13 c14 c15 c16 c17 c18 c19 c20 c21 c22 c23 c24 c25 c26 c27 c28 c29 c30 c31 c32 c33 c34 c35 c36 c37 c38 c39 c40 c41 c42 c43 c44 c45 c46 c47 c48 c49 c50 c51 c52 c53 c54 c55 c56 c57 c58 c59 c60 c61 c62 c63 c64 c65 c66 c67 c68 c69 c70 c71 c72 c73 c74 c75 c76 c77 c78 c79 c80 c81 c82 c83 c84 c85 c86 c87 c88 c89 c90 c91 c92 c93 c94 c95 c96 c97 c98 c99 c100 c101 c102 c103 c104 c105 c106 c107 c108 c109 c110 c111 c112 c113 c114 c115 c116 c117 c118 c119 c120 c121 c122 c123 c124 c125 c126 c127 c128 c129 c130 c131 c132 c133 c134 c135 c136 c137 c138 c139 c140 c141 c142 c143 c144 c145 c146 c147 c148 c149 c150 c151 c152 c153 c154 c155 c156 c157 c158 c159 c160 c161 c162 c163 c164 c165 c166 c167 c168 c169 c170 c171 c172 c173 c174 c175 c176 c177 c178 c179 c180 c181 c182 c183 c184 c185 c186 c187 c188 c189 c190 c191 c192 c193 c194 c195 c196 c197 c198 c199 c200 c201 c202 c203 c204 c205 : Value} (w wr : World) (b x i len c ab ao : Nat) (kd p room : Int) (y : It) (near : Bool) (l : List It) (hi : i < len) (hl : len ≤ 9223372036854775807) (hab : ab < w.heap.size)
    (d0 : w.cell? ⟨ab, ao + i * 7, none⟩ = some (.int .u8 kd)) (d1 : w.cell? ⟨ab, ao + i * 7 + 1, none⟩ = some (.int .i64 y.fr)) (d2 : w.cell? ⟨ab, ao + i * 7 + 2, none⟩ = some (.int .i64 y.to)) (d3 : w.cell? ⟨ab, ao + i * 7 + 3, none⟩ = some (.string y.by_))
    (d4 : w.cell? ⟨ab, ao + i * 7 + 4, none⟩ = some (.int .u64 y.at_)) (d5 : w.cell? ⟨ab, ao + i * 7 + 5, none⟩ = some (.int .i64 p)) (d6 : w.cell? ⟨ab, ao + i * 7 + 6, none⟩ = some (.bool near))
    (b0 : 0 ≤ kd ∧ kd ≤ 255) (b1 : -9223372036854775808 ≤ y.fr ∧ y.fr ≤ 9223372036854775807) (b2 : -9223372036854775808 ≤ y.to ∧ y.to ≤ 9223372036854775807) (b3 : 0 ≤ y.at_ ∧ y.at_ < 18446744073709551616) (b4 : y.by_.size ≤ maxLen)
    (hP : PW w wr b l x l room []) (K : Act → World → Prop) (Q : Exit → Act → World → Prop)
    (hK : ∀ (u6 u12 u13 u14 u15 u16 u17 u18 u19 u20 u21 u67 u68 u69 u70 u71 u72 u73 u74 u75 u76 u77 u78 u79 u80 u81 u82 u83 u84 u85 u86 u87 u88 u89 u90 u91 u92 u93 u94 u95 u96 u97 u98 u99 u100 u101 u102 u103 u104 u105 u106 u107 u108 u109 u110 u111 u112 u113 u114 u115 u116 u117 u118 u119 u120 u121 u122 u123 u124 u125 u126 u127 u128 u129 u130 u131 u132 u133 u134 u135 u136 u137 u138 u139 u140 u141 u142 u143 u144 u145 u146 u147 u148 u149 u150 u151 u152 u153 u154 u155 u156 u157 u158 u159 u160 u161 u162 u163 u164 : Value) (wx : World) (l' : List It), PW w wx b l' x l' room [] → K ⟨#[c0, c1, .slice (some ⟨ab, ao, none⟩) len c, c3, c4, c5, u6, c7, .pointer (some ⟨b, 0, none⟩), c9, .pointer (some ⟨x, 0, none⟩), .int .i64 (i : Int), u12, u13, u14, u15, u16, u17, u18, u19, u20, u21, c22, c23, c24, c25, c26, c27, c28, c29, c30, c31, c32, c33, c34, c35, c36, c37, c38, c39, c40, c41, c42, c43, c44, c45, c46, c47, c48, c49, c50, c51, c52, c53, c54, c55, c56, c57, c58, c59, c60, c61, c62, c63, c64, c65, c66, u67, u68, u69, u70, u71, u72, u73, u74, u75, u76, u77, u78, u79, u80, u81, u82, u83, u84, u85, u86, u87, u88, u89, u90, u91, u92, u93, u94, u95, u96, u97, u98, u99, u100, u101, u102, u103, u104, u105, u106, u107, u108, u109, u110, u111, u112, u113, u114, u115, u116, u117, u118, u119, u120, u121, u122, u123, u124, u125, u126, u127, u128, u129, u130, u131, u132, u133, u134, u135, u136, u137, u138, u139, u140, u141, u142, u143, u144, u145, u146, u147, u148, u149, u150, u151, u152, u153, u154, u155, u156, u157, u158, u159, u160, u161, u162, u163, u164, c165, c166, c167, c168, c169, c170, c171, c172, c173, c174, c175, c176, c177, c178, c179, c180, c181, c182, c183, c184, c185, c186, c187, c188, c189, c190, c191, c192, c193, c194, c195, c196, c197, c198, c199, c200, c201, c202, c203, c204, c205], []⟩ wx) :
    playPassCode.wp Try.prog (Exit.then K Q) ⟨#[c0, c1, .slice (some ⟨ab, ao, none⟩) len c, c3, c4, c5, c6, c7, .pointer (some ⟨b, 0, none⟩), c9, .pointer (some ⟨x, 0, none⟩), .int .i64 (i : Int), c12, c13, c14, c15, c16, c17, c18, c19, c20, c21, c22, c23, c24, c25, c26, c27, c28, c29, c30, c31, c32, c33, c34, c35, c36, c37, c38, c39, c40, c41, c42, c43, c44, c45, c46, c47, c48, c49, c50, c51, c52, c53, c54, c55, c56, c57, c58, c59, c60, c61, c62, c63, c64, c65, c66, c67, c68, c69, c70, c71, c72, c73, c74, c75, c76, c77, c78, c79, c80, c81, c82, c83, c84, c85, c86, c87, c88, c89, c90, c91, c92, c93, c94, c95, c96, c97, c98, c99, c100, c101, c102, c103, c104, c105, c106, c107, c108, c109, c110, c111, c112, c113, c114, c115, c116, c117, c118, c119, c120, c121, c122, c123, c124, c125, c126, c127, c128, c129, c130, c131, c132, c133, c134, c135, c136, c137, c138, c139, c140, c141, c142, c143, c144, c145, c146, c147, c148, c149, c150, c151, c152, c153, c154, c155, c156, c157, c158, c159, c160, c161, c162, c163, c164, c165, c166, c167, c168, c169, c170, c171, c172, c173, c174, c175, c176, c177, c178, c179, c180, c181, c182, c183, c184, c185, c186, c187, c188, c189, c190, c191, c192, c193, c194, c195, c196, c197, c198, c199, c200, c201, c202, c203, c204, c205], []⟩ wr := by
  have HK := hide hK
  have HP2 := hide (hP.push (deedV kd y p near) 35)
  have j1 : (i : Int) < len := by omega
  have e0 := (hP.bel.cell (p := ⟨ab, ao + i * 7, none⟩) hab).trans d0
  have e1 := (hP.bel.cell (p := ⟨ab, ao + i * 7 + 1, none⟩) hab).trans d1
  have e2 := (hP.bel.cell (p := ⟨ab, ao + i * 7 + 2, none⟩) hab).trans d2
  have e3 := (hP.bel.cell (p := ⟨ab, ao + i * 7 + 3, none⟩) hab).trans d3
  have e4 := (hP.bel.cell (p := ⟨ab, ao + i * 7 + 4, none⟩) hab).trans d4
  have e5 := (hP.bel.cell (p := ⟨ab, ao + i * 7 + 5, none⟩) hab).trans d5
  have e6 := (hP.bel.cell (p := ⟨ab, ao + i * 7 + 6, none⟩) hab).trans d6
  have B := hide (And.intro b0 (And.intro b1 (And.intro b2 (And.intro b3 b4))))
  have hab2 : ab < wr.heap.size := by have := hP.sz; omega
  have k0 : 0 ≤ kd := b0.1
  clear hK hP d0 d1 d2 d3 d4 d5 d6 b0 b1 b2 b3 b4
  conv => arg 2; whnf
  go_upto_block 2 with fail
  rename_i K2 hK2
  have HK2 := hide hK2
  clear hK2
  refine wp_block_then ?_
  obtain ⟨b0, b1, b2, b3, b4⟩ := B.out
  have hq : kd % 8 ≤ 3 ∨ (kd % 8 = 4 ∨ kd % 8 = 5) ∨ kd % 8 = 6 ∨ kd % 8 = 7 := by omega
  rcases hq with hq | hq | hq | hq
  · refine playPut w _ b x wr.heap.size kd p room y near l b0 b1 b2 b3 b4 hq HP2.out K2 _ ?_
    intro u14 u15 u16 u17 u73 u74 u75 u76 u77 u78 u79 u80 u81 u82 u83 u84 u85 u86 u87 u88 u89 u90 u91 u92 u93 u94 u95 u96 u97 u98 u99 u100 u101 u102 u103 u104 u105 u106 u107 u108 u109 u110 u111 u112 u113 u114 u115 u116 u117 u118 u119 u120 u121 u122 u123 u124 u125 u126 u127 u128 u129 u130 u131 wx l' hP'
    refine HK2.out _ _ ?_
    refine playTail w wx b x room l' _ hP' K _ ?_
    intro v6 v18 v19 v20 v21 v132 v133 v134 v135 v136 v137 v138 v139 v140 v141 v142 v143 v144 v145 v146 v147 v148 v149 v150 v151 v152 v153 v154 v155 v156 v157 v158 v159 v160 v161 v162 v163 v164 wy hP2
    exact HK.out _ _ _ _ _ _ _ _ _ _ _ _ _ _ _ _ _ _ _ _ _ _ _ _ _ _ _ _ _ _ _ _ _ _ _ _ _ _ _ _ _ _ _ _ _ _ _ _ _ _ _ _ _ _ _ _ _ _ _ _ _ _ _ _ _ _ _ _ _ _ _ _ _ _ _ _ _ _ _ _ _ _ _ _ _ _ _ _ _ _ _ _ _ _ _ _ _ _ _ _ _ _ _ _ _ _ _ _ _ _ l' hP2
  · refine playTake w _ b x wr.heap.size kd p room y near l b0 b1 b2 b3 b4 hq HP2.out K2 _ ?_
    intro u14 u15 u16 u17 u73 u74 u75 u76 u77 u78 u79 u80 u81 u82 u83 u84 u85 u86 u87 u88 u89 u90 u91 u92 u93 u94 u95 u96 u97 u98 u99 u100 u101 u102 u103 u104 u105 u106 u107 u108 u109 u110 u111 u112 u113 u114 u115 u116 u117 u118 u119 u120 u121 u122 u123 u124 u125 u126 u127 u128 u129 u130 u131 wx l' hP'
    refine HK2.out _ _ ?_
    refine playTail w wx b x room l' _ hP' K _ ?_
    intro v6 v18 v19 v20 v21 v132 v133 v134 v135 v136 v137 v138 v139 v140 v141 v142 v143 v144 v145 v146 v147 v148 v149 v150 v151 v152 v153 v154 v155 v156 v157 v158 v159 v160 v161 v162 v163 v164 wy hP2
    exact HK.out _ _ _ _ _ _ _ _ _ _ _ _ _ _ _ _ _ _ _ _ _ _ _ _ _ _ _ _ _ _ _ _ _ _ _ _ _ _ _ _ _ _ _ _ _ _ _ _ _ _ _ _ _ _ _ _ _ _ _ _ _ _ _ _ _ _ _ _ _ _ _ _ _ _ _ _ _ _ _ _ _ _ _ _ _ _ _ _ _ _ _ _ _ _ _ _ _ _ _ _ _ _ _ _ _ _ _ _ _ _ l' hP2
  · refine playCopy w _ b x wr.heap.size kd p room y near l b0 b1 b2 b3 b4 hq HP2.out K2 _ ?_
    intro u14 u15 u16 u17 u73 u74 u75 u76 u77 u78 u79 u80 u81 u82 u83 u84 u85 u86 u87 u88 u89 u90 u91 u92 u93 u94 u95 u96 u97 u98 u99 u100 u101 u102 u103 u104 u105 u106 u107 u108 u109 u110 u111 u112 u113 u114 u115 u116 u117 u118 u119 u120 u121 u122 u123 u124 u125 u126 u127 u128 u129 u130 u131 wx l' hP'
    refine HK2.out _ _ ?_
    refine playTail w wx b x room l' _ hP' K _ ?_
    intro v6 v18 v19 v20 v21 v132 v133 v134 v135 v136 v137 v138 v139 v140 v141 v142 v143 v144 v145 v146 v147 v148 v149 v150 v151 v152 v153 v154 v155 v156 v157 v158 v159 v160 v161 v162 v163 v164 wy hP2
    exact HK.out _ _ _ _ _ _ _ _ _ _ _ _ _ _ _ _ _ _ _ _ _ _ _ _ _ _ _ _ _ _ _ _ _ _ _ _ _ _ _ _ _ _ _ _ _ _ _ _ _ _ _ _ _ _ _ _ _ _ _ _ _ _ _ _ _ _ _ _ _ _ _ _ _ _ _ _ _ _ _ _ _ _ _ _ _ _ _ _ _ _ _ _ _ _ _ _ _ _ _ _ _ _ _ _ _ _ _ _ _ _ l' hP2
  · refine playLast w _ b x wr.heap.size kd p room y near l b0 b1 b2 b3 b4 hq HP2.out K2 _ ?_
    intro u14 u15 u16 u17 u73 u74 u75 u76 u77 u78 u79 u80 u81 u82 u83 u84 u85 u86 u87 u88 u89 u90 u91 u92 u93 u94 u95 u96 u97 u98 u99 u100 u101 u102 u103 u104 u105 u106 u107 u108 u109 u110 u111 u112 u113 u114 u115 u116 u117 u118 u119 u120 u121 u122 u123 u124 u125 u126 u127 u128 u129 u130 u131 wx l' hP'
    refine HK2.out _ _ ?_
    refine playTail w wx b x room l' _ hP' K _ ?_
    intro v6 v18 v19 v20 v21 v132 v133 v134 v135 v136 v137 v138 v139 v140 v141 v142 v143 v144 v145 v146 v147 v148 v149 v150 v151 v152 v153 v154 v155 v156 v157 v158 v159 v160 v161 v162 v163 v164 wy hP2
    exact HK.out _ _ _ _ _ _ _ _ _ _ _ _ _ _ _ _ _ _ _ _ _ _ _ _ _ _ _ _ _ _ _ _ _ _ _ _ _ _ _ _ _ _ _ _ _ _ _ _ _ _ _ _ _ _ _ _ _ _ _ _ _ _ _ _ _ _ _ _ _ _ _ _ _ _ _ _ _ _ _ _ _ _ _ _ _ _ _ _ _ _ _ _ _ _ _ _ _ _ _ _ _ _ _ _ _ _ _ _ _ _ l' hP2

end Go.Proofs.Ytioehmlaaimeaaa
