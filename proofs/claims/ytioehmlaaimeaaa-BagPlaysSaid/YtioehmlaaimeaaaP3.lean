/-
  Chapter 21: BagPlays: its end; the law.
-/
import Derived.Test.YtioehmlaaimeaaaP2
namespace Go.Proofs.Ytioehmlaaimeaaa
open Go.RowKit
set_option linter.unusedVariables false

noncomputable def playEndCode : Code := codeAt ((Try.f3.body).getD .skip) [1, 1, 1, 1, 1, 1, 1, 1, 1]
set_option maxRecDepth 100000 in
set_option maxHeartbeats 20000000 in
theorem playEnd {c0 c1 c2 c3 c4 c5 c6 c9 c11 c12 c13 c14 c15 c16 c17 c18 c19 c20 c21 c22 c23 c24 c25 c26 c27 c28 c29 c30 c31 c32 c33 c34 c35 c36 c37 c38 c39 c40 c41 c42 c43 c44 c45 c46 c47 c48 c49 c50 c51 c52 c53 c54 c55 c56 c57 c58 c59 c60 c61 c62 c63 c64 c65 c66 c67 c68 c69 c70 c71 c72 c73 c74 c75 c76 c77 c78 c79 c80 c81 c82 c83 c84 c85 c86 c87 c88 c89 c90 c91 c92 c93 c94 c95 c96 c97 c98 c99 c100 c101 c102 c103 c104 c105 c106 c107 c108 c109 c110 c111 c112 c113 c114 c115 c116 c117 c118 c119 c120 c121 c122 c123 c124 c125 c126 c127 c128 c129 c130 c131 c132 c133 c134 c135 c136 c137 c138 c139 c140 c141 c142 c143 c144 c145 c146 c147 c148 c149 c150 c151 c152 c153 c154 c155 c156 c157 c158 c159 c160 c161 c162 c163 c164 c165 c166 c167 c168 c169 c170 c171 c172 c173 c174 c175 c176 c177 c178 c179 c180 c181 c182 c183 c184 c185 c186 c187 c188 c189 c190 c191 c192 c193 c194 c195 c196 c197 c198 c199 c200 c201 c202 c203 c204 c205 : Value} (w wr : World) (b x : Nat) (room : Int) (l : List It) (hP : PW w wr b l x l room []) :
    playEndCode.wp Try.prog (bodyPost Try.prog Try.f3 fun e w' => e = .returned (.bool true) ∧ Below w.heap.size w w') ⟨#[c0, c1, c2, c3, c4, c5, c6, .bool true, .pointer (some ⟨b, 0, none⟩), c9, .pointer (some ⟨x, 0, none⟩), c11, c12, c13, c14, c15, c16, c17, c18, c19, c20, c21, c22, c23, c24, c25, c26, c27, c28, c29, c30, c31, c32, c33, c34, c35, c36, c37, c38, c39, c40, c41, c42, c43, c44, c45, c46, c47, c48, c49, c50, c51, c52, c53, c54, c55, c56, c57, c58, c59, c60, c61, c62, c63, c64, c65, c66, c67, c68, c69, c70, c71, c72, c73, c74, c75, c76, c77, c78, c79, c80, c81, c82, c83, c84, c85, c86, c87, c88, c89, c90, c91, c92, c93, c94, c95, c96, c97, c98, c99, c100, c101, c102, c103, c104, c105, c106, c107, c108, c109, c110, c111, c112, c113, c114, c115, c116, c117, c118, c119, c120, c121, c122, c123, c124, c125, c126, c127, c128, c129, c130, c131, c132, c133, c134, c135, c136, c137, c138, c139, c140, c141, c142, c143, c144, c145, c146, c147, c148, c149, c150, c151, c152, c153, c154, c155, c156, c157, c158, c159, c160, c161, c162, c163, c164, c165, c166, c167, c168, c169, c170, c171, c172, c173, c174, c175, c176, c177, c178, c179, c180, c181, c182, c183, c184, c185, c186, c187, c188, c189, c190, c191, c192, c193, c194, c195, c196, c197, c198, c199, c200, c201, c202, c203, c204, c205], []⟩ wr := by
  have HP := hide hP
  have hl5 : l.length ≤ 512 := by have := hP.lr; omega
  clear hP
  conv => arg 2; whnf
  go_wp2_with fail
  refine (pw_items HP.out).mono ?_
  rintro e w1 ⟨A, c, rfl, ho, h1⟩
  have H1 := hide h1
  have HO := hide ho
  clear h1 ho HP
  go_upto_block 3 with fail
  rename_i K3 hK3
  have HK3 := hide hK3
  clear hK3
  refine wp_block_then ?_
  go_loopg [23] (l.length + 1) (fun q i wx => ∃ j : Nat, i = .int .i64 (j : Int) ∧ j ≤ l.length ∧ q = l.length + 1 - j ∧ Below w1.heap.size w1 wx)
  case atStart => exact ⟨0, rfl, by omega, by omega, Below.refl _ _⟩
  case round =>
    obtain ⟨j, rfl, hj, rfl, hb⟩ := hrel
    have HB := hide hb
    obtain ⟨A2, c3, hx, hfl⟩ := (H1.out.below hb).field
    have lx := World.block_lt_of_cell? _ _ hx
    by_cases hlt : j < l.length
    · obtain ⟨g2, rfl, hc3, r0, r1, r2, r3⟩ := hfl j hlt
      obtain ⟨g, rfl, _, _, a0, a1, a2, a3⟩ := own_item (HO.out.kept (below_grown_none hb) (by cases hv : (Value.slice A l.length c).ownBlock <;> simp)) hlt
      obtain ⟨z, hz⟩ : ∃ z, z = itAt l j := ⟨_, rfl⟩
      rw [← hz] at r0 r1 r2 r3 a0 a1 a2 a3
      have la := World.block_lt_of_cell? _ _ a0
      have lb := World.block_lt_of_cell? _ _ r0
      have hq38 := fun (W : World) => neq_ritem z z W
      have hgd := fun (op : BinOp) (o1 o2 : Operand) (xs ys : Array Value) (W : World) => guard_ritem op o1 o2 xs ys W
      have hse := eqIt_self z
      have j1 : (j : Int) < l.length := by omega
      have j2 : decide (l.length ≤ j) = false := decide_eq_false (by omega)
      have j3 : ¬ l.length ≤ j := by omega
      clear hb hz hfl
      go_wp2_with fail
      go_region_held3 (fun w' => w'.cell? ⟨x, 0, none⟩ = some (.slice (some ⟨g2, 0, none⟩) l.length c3) ∧ w'.cell? ⟨g, j * 4, none⟩ = some (.int .i64 z.fr) ∧ w'.cell? ⟨g, j * 4 + 1, none⟩ = some (.int .i64 z.to) ∧ w'.cell? ⟨g, j * 4 + 2, none⟩ = some (.string z.by_) ∧ w'.cell? ⟨g, j * 4 + 3, none⟩ = some (.int .u64 z.at_) ∧ w'.cell? ⟨g2, j * 4, none⟩ = some (.int .i64 z.fr) ∧ w'.cell? ⟨g2, j * 4 + 1, none⟩ = some (.int .i64 z.to) ∧ w'.cell? ⟨g2, j * 4 + 2, none⟩ = some (.string z.by_) ∧ w'.cell? ⟨g2, j * 4 + 3, none⟩ = some (.int .u64 z.at_)) (first | exact ⟨hx, a0, a1, a2, a3, r0, r1, r2, r3⟩ | exact ⟨ex, d0, d1, d2, d3, f0, f1, f2, f3⟩)
        ((go_at_call 12; refine (ref_any z _).mono ?_; rintro e w4 ⟨rfl, hb4⟩; have ex := (hb4.cell (p := ⟨x, 0, none⟩) lx).trans hx; have d0 := (hb4.cell (p := ⟨g, j * 4, none⟩) la).trans a0; have d1 := (hb4.cell (p := ⟨g, j * 4 + 1, none⟩) la).trans a1; have d2 := (hb4.cell (p := ⟨g, j * 4 + 2, none⟩) la).trans a2; have d3 := (hb4.cell (p := ⟨g, j * 4 + 3, none⟩) la).trans a3; have f0 := (hb4.cell (p := ⟨g2, j * 4, none⟩) lb).trans r0; have f1 := (hb4.cell (p := ⟨g2, j * 4 + 1, none⟩) lb).trans r1; have f2 := (hb4.cell (p := ⟨g2, j * 4 + 2, none⟩) lb).trans r2; have f3 := (hb4.cell (p := ⟨g2, j * 4 + 3, none⟩) lb).trans r3))
      go_wp2_with fail
      go_roundg (l.length + 1 - (j + 1))
      case measure => omega
      case rel => exact ⟨j + 1, by go_num, by omega, rfl, HB.out.trans ((below_undrew hb4).mono HB.out.size)⟩
    · obtain rfl : j = l.length := by omega
      have j1 : ((l.length : Int) < l.length) = False := by simp
      clear hb hfl
      go_wp2_with fail
      refine HK3.out _ _ ?_
      clear HK3
      go_wp2_with fail
      go_ret
      exact ⟨rfl, H1.out.bel.trans (HB.out.mono H1.out.bel.size)⟩

noncomputable def playRestCode : Code := codeAt ((Try.f3.body).getD .skip) [1, 1, 1, 1]
set_option maxRecDepth 100000 in
set_option maxHeartbeats 20000000 in
theorem playRest {c1 c3 c4 c5 c6 c8 c9 c10 c11 c12 c13 c14 c15 c16 c17 c18 c19 c20 c21 c22 c23 c24 c25 c26 c27 c28 c29 c30 c31 c32 c33 c34 c35 c36 c37 c38 c39 c40 c41 c42 c43 c44 c45 c46 c47 c48 c49 c50 c51 c52 c53 c54 c55 c56 c57 c58 c59 c60 c61 c62 c63 c64 c65 c66 c67 c68 c69 c70 c71 c72 c73 c74 c75 c76 c77 c78 c79 c80 c81 c82 c83 c84 c85 c86 c87 c88 c89 c90 c91 c92 c93 c94 c95 c96 c97 c98 c99 c100 c101 c102 c103 c104 c105 c106 c107 c108 c109 c110 c111 c112 c113 c114 c115 c116 c117 c118 c119 c120 c121 c122 c123 c124 c125 c126 c127 c128 c129 c130 c131 c132 c133 c134 c135 c136 c137 c138 c139 c140 c141 c142 c143 c144 c145 c146 c147 c148 c149 c150 c151 c152 c153 c154 c155 c156 c157 c158 c159 c160 c161 c162 c163 c164 c165 c166 c167 c168 c169 c170 c171 c172 c173 c174 c175 c176 c177 c178 c179 c180 c181 c182 c183 c184 c185 c186 c187 c188 c189 c190 c191 c192 c193 c194 c195 c196 c197 c198 c199 c200 c201 c202 c203 c204 c205 : Value} (room : Int) (A : Option Addr) (len c : Nat) (w w1 : World) (hl : len ≤ 9223372036854775807) (hD : Deeds w A len) (hr : -9223372036854775808 ≤ room ∧ room ≤ 9223372036854775807) (hb1 : Below w.heap.size w w1) :
    playRestCode.wp Try.prog (bodyPost Try.prog Try.f3 fun e w' => e = .returned (.bool true) ∧ Below w.heap.size w w') ⟨#[.int .i64 room, c1, .slice A len c, c3, c4, c5, c6, .bool true, c8, c9, c10, c11, c12, c13, c14, c15, c16, c17, c18, c19, c20, c21, c22, c23, c24, c25, c26, c27, c28, c29, c30, c31, c32, c33, c34, c35, c36, c37, c38, c39, c40, c41, c42, c43, c44, c45, c46, c47, c48, c49, c50, c51, c52, c53, c54, c55, c56, c57, c58, c59, c60, c61, c62, c63, c64, c65, c66, c67, c68, c69, c70, c71, c72, c73, c74, c75, c76, c77, c78, c79, c80, c81, c82, c83, c84, c85, c86, c87, c88, c89, c90, c91, c92, c93, c94, c95, c96, c97, c98, c99, c100, c101, c102, c103, c104, c105, c106, c107, c108, c109, c110, c111, c112, c113, c114, c115, c116, c117, c118, c119, c120, c121, c122, c123, c124, c125, c126, c127, c128, c129, c130, c131, c132, c133, c134, c135, c136, c137, c138, c139, c140, c141, c142, c143, c144, c145, c146, c147, c148, c149, c150, c151, c152, c153, c154, c155, c156, c157, c158, c159, c160, c161, c162, c163, c164, c165, c166, c167, c168, c169, c170, c171, c172, c173, c174, c175, c176, c177, c178, c179, c180, c181, c182, c183, c184, c185, c186, c187, c188, c189, c190, c191, c192, c193, c194, c195, c196, c197, c198, c199, c200, c201, c202, c203, c204, c205], []⟩ w1 := by
  have HD := hide hD
  have B1 := hide hb1
  clear hD hb1
  conv => arg 2; whnf
  have hor : (room < 1 ∨ 512 < room) ∨ (1 ≤ room ∧ room ≤ 512) := by omega
  rcases hor with hbad | ⟨h1, h2⟩
  · go_wp2_with fail
    refine (new_bad room w1 hbad).mono ?_
    rintro e w2 ⟨rfl, rfl⟩
    go_wp2_with fail
    refine (rnew_bad room w1 hbad).mono ?_
    rintro e w2 ⟨rfl, rfl⟩
    go_wp2_with fail
    go_ret
    exact ⟨rfl, B1.out⟩
  · obtain ⟨M, hM⟩ : ∃ M, M = min len 80 := ⟨_, rfl⟩
    have HM := hide hM
    clear hM
    go_wp2_with fail
    refine (bw_new room w w1 B1.out h1 h2).mono ?_
    rintro e w2 ⟨b, rfl, h3⟩
    have H3 := hide h3
    clear h3
    go_wp2_with fail
    refine (pw_rnew room H3.out h1 h2).mono ?_
    rintro e w3 ⟨x, rfl, h4⟩
    have H4 := hide h4
    clear h4 H3
    go_upto_block 0 with fail
    rename_i K0 hK0
    have HK0 := hide hK0
    clear hK0
    refine wp_block_then ?_
    go_loopg [11] (M + 1) (fun q i wr => ∃ (j : Nat) (l : List It), i = .int .i64 (j : Int) ∧ j ≤ M ∧ q = M + 1 - j ∧ PW w wr b l x l room [])
    case atStart => exact ⟨0, [], rfl, by omega, by omega, H4.out⟩
    case round =>
      obtain ⟨j, l, rfl, hj, rfl, hP⟩ := hrel
      have HP := hide hP
      clear hP
      by_cases hlt : j < M
      · have j1 : (j : Int) < len := by have := HM.out; omega
        have j2 : (j : Int) < 80 := by have := HM.out; omega
        obtain ⟨ab, ao, rfl, hab, kd, p, y, near, d0, d1, d2, d3, d4, d5, d6, b0, b1, b2, b3, b4⟩ := HD.out j (by omega)
        have DD := hide (And.intro d0 (And.intro d1 (And.intro d2 (And.intro d3 (And.intro d4 (And.intro d5 d6))))))
        have BB := hide (And.intro b0 (And.intro b1 (And.intro b2 (And.intro b3 b4))))
        clear d0 d1 d2 d3 d4 d5 d6 b0 b1 b2 b3 b4
        go_upto_block 1 with fail
        rename_i K1 hK1
        have HK1 := hide hK1
        clear hK1
        refine wp_block_then ?_
        obtain ⟨d0, d1, d2, d3, d4, d5, d6⟩ := DD.out
        obtain ⟨b0, b1, b2, b3, b4⟩ := BB.out
        refine playPass w _ b x j len c ab ao kd p room y near l (by omega) hl hab d0 d1 d2 d3 d4 d5 d6 b0 b1 b2 b3 b4 HP.out K1 _ ?_
        intro u6 u12 u13 u14 u15 u16 u17 u18 u19 u20 u21 u67 u68 u69 u70 u71 u72 u73 u74 u75 u76 u77 u78 u79 u80 u81 u82 u83 u84 u85 u86 u87 u88 u89 u90 u91 u92 u93 u94 u95 u96 u97 u98 u99 u100 u101 u102 u103 u104 u105 u106 u107 u108 u109 u110 u111 u112 u113 u114 u115 u116 u117 u118 u119 u120 u121 u122 u123 u124 u125 u126 u127 u128 u129 u130 u131 u132 u133 u134 u135 u136 u137 u138 u139 u140 u141 u142 u143 u144 u145 u146 u147 u148 u149 u150 u151 u152 u153 u154 u155 u156 u157 u158 u159 u160 u161 u162 u163 u164 wx l' hP'
        refine HK1.out _ _ ?_
        have HP' := hide hP'
        clear hP' d0 d1 d2 d3 d4 d5 d6 b0 b1 b2 b3 b4 DD BB HP
        go_wp2_with fail
        go_roundg (M + 1 - (j + 1))
        case measure => omega
        case rel => exact ⟨j + 1, l', by go_num, by omega, rfl, HP'.out⟩
      · obtain rfl : j = M := by omega
        have hfin : (len : Int) ≤ j ∨ ((j : Int) < len ∧ (80 : Int) ≤ j) := by have := HM.out; omega
        rcases hfin with hf | ⟨hf, hg⟩
        · go_wp2_with fail
          refine HK0.out _ _ ?_
          exact playEnd w _ b x room l HP.out
        · go_wp2_with fail
          refine HK0.out _ _ ?_
          exact playEnd w _ b x room l HP.out

set_option maxRecDepth 100000 in
set_option maxHeartbeats 20000000 in
theorem plays_law (room : Int) (near : Bool) (A : Option Addr) (len c : Nat) (w : World) (hl : len ≤ 9223372036854775807) (hD : Deeds w A len) (hr : -9223372036854775808 ≤ room ∧ room ≤ 9223372036854775807) :
    Calls Try.prog 3 #[.int .i64 room, .bool near, .slice A len c] w fun e w' => e = .returned (.bool true) ∧ Below w.heap.size w w' := by
  have HD := hide hD
  clear hD
  go_enter Try.func3, Try.ntmps3
  go_wp2_with fail
  refine (examples_any _).mono ?_
  rintro e w1 ⟨rfl, hb1⟩
  have B1 := hide hb1
  clear hb1
  go_upto_if 27 with fail
  rename_i K1 hK1
  have HK1 := hide hK1
  clear hK1
  have w0 : 0 ≤ IntKind.u64.wrap room := by rw [IntKind.wrap_u64]; omega
  cases near with
  | true =>
    refine wp_cond_true rfl ?_
    go_wp2_with fail
    refine HK1.out _ _ ?_
    exact playRest _ A len c w w1 hl HD.out (by omega) B1.out
  | false =>
    refine wp_cond_false rfl ?_
    go_wp2_with fail
    refine HK1.out _ _ ?_
    exact playRest _ A len c w w1 hl HD.out hr B1.out

end Go.Proofs.Ytioehmlaaimeaaa
