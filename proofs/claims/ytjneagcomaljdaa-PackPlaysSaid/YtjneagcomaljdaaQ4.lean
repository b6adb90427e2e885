/-
  Chapter 2: PackPlays: its end, its loop, its law.
-/
import Derived.Test.YtjneagcomaljdaaQ3
import Derived.Deep.OwnRows
namespace Go.Proofs.Ytjneagcomaljdaa
open Go.RowKit
set_option linter.unusedVariables false

noncomputable def toldCode : Code := codeAt ((Try.f3.body).getD .skip) [1, 1, 1, 1, 1, 1, 1]

set_option maxRecDepth 100000 in
set_option maxHeartbeats 4000000 in
theorem told {c0 c1 c4 c5 c6 c7 c8 c9 c10 c11 c12 c14 c15 c16 c17 c18 c19 c20 c21 c22 c23 c24 c25 c26 c27 c28 c29 c30 c31 c32 c33 c35 c36 c37 c38 c39 c40 c41 c42 c43 c44 c45 c46 c47 c48 c49 c50 c51 c52 c53 c54 c55 c56 c57 c58 c59 c60 c61 c62 c63 c64 c65 c66 c67 c68 c69 c70 c71 c72 c73 c74 c75 c76 c77 c78 c79 c80 c81 c82 c83 c84 c85 c86 c87 c88 c89 c90 c91 c92 c93 c94 c95 c96 c97 c98 c99 c100 c101 c102 c103 c104 c105 c106 c107 c108 c109 c110 c111 c112 c113 c114 c115 c116 c117 c118 c119 c120 c121 c122 c123 c124 c125 c126 c127 c128 c129 c130 c131 c132 c133 c134 c135 c136 c137 c138 c139 c140 c141 c142 c143 c144 c145 c146 c147 c148 c149 c150 c151 c152 c153 c154 c155 c156 c157 c158 c159 c160 c161 c162 c163 c164 c165 c166 c167 c168 c169 c170 c171 c172 c173 c174 c175 c176 c177 c178 c179 c180 c181 c182 c183 c184 c185 c186 c187 c188 c189 c190 c191 c192 c193 c194 c195 c196 c197 c198 c199 c200 c201 c202 c203 c204 c205 c206 c207 c208 c209 c210 c211 c212 c213 c214 c215 c216 c217 c218 c219 c220 c221 c222 c223 c224 c225 c226 c227 c228 c229 c230 : Value} (w wc : World) (n : Nat) (size : Int) (t : ByteArray) (hn : n < 18446744073709551616) (hs : -9223372036854775808 ≤ size ∧ size ≤ 9223372036854775807) (ht : t.size ≤ maxLen)
    (HB0 : Below w.heap.size w wc) :
    toldCode.wp Try.prog (bodyPost Try.prog Try.f3 fun e w' => e = .returned (.bool true) ∧ Below w.heap.size w w') ⟨#[c0, c1, .int .u64 (n : Int), .int .i64 size, c4, c5, c6, c7, c8, c9, c10, c11, c12, .bool true, c14, c15, c16, c17, c18, c19, c20, c21, c22, c23, c24, c25, c26, c27, c28, c29, c30, c31, c32, c33, .string t, c35, c36, c37, c38, c39, c40, c41, c42, c43, c44, c45, c46, c47, c48, c49, c50, c51, c52, c53, c54, c55, c56, c57, c58, c59, c60, c61, c62, c63, c64, c65, c66, c67, c68, c69, c70, c71, c72, c73, c74, c75, c76, c77, c78, c79, c80, c81, c82, c83, c84, c85, c86, c87, c88, c89, c90, c91, c92, c93, c94, c95, c96, c97, c98, c99, c100, c101, c102, c103, c104, c105, c106, c107, c108, c109, c110, c111, c112, c113, c114, c115, c116, c117, c118, c119, c120, c121, c122, c123, c124, c125, c126, c127, c128, c129, c130, c131, c132, c133, c134, c135, c136, c137, c138, c139, c140, c141, c142, c143, c144, c145, c146, c147, c148, c149, c150, c151, c152, c153, c154, c155, c156, c157, c158, c159, c160, c161, c162, c163, c164, c165, c166, c167, c168, c169, c170, c171, c172, c173, c174, c175, c176, c177, c178, c179, c180, c181, c182, c183, c184, c185, c186, c187, c188, c189, c190, c191, c192, c193, c194, c195, c196, c197, c198, c199, c200, c201, c202, c203, c204, c205, c206, c207, c208, c209, c210, c211, c212, c213, c214, c215, c216, c217, c218, c219, c220, c221, c222, c223, c224, c225, c226, c227, c228, c229, c230], []⟩ wc := by
  have HT := hide ht
  have HN := hide hn
  have B0 := hide HB0
  clear HB0 ht
  conv => arg 2; whnf
  go_wp2_with fail
  refine (str_any t _ HT.out).mono ?_
  rintro e w1 ⟨rfl, hb1⟩
  have B1 := hide (B0.out.trans (hb1.mono B0.out.size))
  clear hb1 B0
  go_wp2_with fail
  refine (rstr_any t _ HT.out).mono ?_
  rintro e w2 ⟨rfl, hb2⟩
  have B2 := hide (B1.out.trans (hb2.mono B1.out.size))
  clear hb2 B1
  go_wp2_with fail
  refine (put_any n size _ HN.out).mono ?_
  rintro e w3 ⟨rfl, hb3⟩
  have B3 := hide (B2.out.trans (hb3.mono B2.out.size))
  clear hb3 B2
  go_wp2_with fail
  refine (rput_any n size _).mono ?_
  rintro e w4 ⟨rfl, hb4⟩
  have B4 := hide (B3.out.trans (hb4.mono B3.out.size))
  clear hb4 B3
  go_wp2_with fail
  refine (put_any n _ _ HN.out).mono ?_
  rintro e w5 ⟨rfl, hb5⟩
  have B5 := hide (B4.out.trans (hb5.mono B4.out.size))
  clear hb5 B4
  go_wp2_with fail
  refine (rput_any n _ _).mono ?_
  rintro e w6 ⟨rfl, hb6⟩
  have B6 := hide (B5.out.trans (hb6.mono B5.out.size))
  clear hb6 B5
  go_wp2_with fail
  refine (is_any _ _).mono ?_
  rintro e w7 ⟨rfl, hb7⟩
  have B7 := hide (B6.out.trans (hb7.mono B6.out.size))
  clear hb7 B6
  go_wp2_with fail
  refine (ris_any _ _).mono ?_
  rintro e w8 ⟨rfl, hb8⟩
  have B8 := hide (B7.out.trans (hb8.mono B7.out.size))
  clear hb8 B7
  go_wp2_with fail
  exact bodyPost_ret (v := .bool true) (by simp [results, Try.results3, go_sem]) rfl ⟨rfl, B8.out⟩
noncomputable def endCode : Code := codeAt ((Try.f3.body).getD .skip) [1, 1, 1, 1, 1]

set_option maxRecDepth 100000 in
set_option maxHeartbeats 4000000 in
theorem ends {c0 c1 c6 c7 c8 c9 c10 c11 c12 c14 c15 c16 c17 c18 c19 c20 c21 c22 c23 c24 c25 c26 c27 c28 c29 c30 c31 c32 c33 c34 c35 c36 c37 c38 c39 c40 c41 c42 c43 c44 c45 c46 c47 c48 c49 c50 c51 c52 c53 c54 c55 c56 c57 c58 c59 c60 c61 c62 c63 c64 c65 c66 c67 c68 c69 c70 c71 c72 c73 c74 c75 c76 c77 c78 c79 c80 c81 c82 c83 c84 c85 c86 c87 c88 c89 c90 c91 c92 c93 c94 c95 c96 c97 c98 c99 c100 c101 c102 c103 c104 c105 c106 c107 c108 c109 c110 c111 c112 c113 c114 c115 c116 c117 c118 c119 c120 c121 c122 c123 c124 c125 c126 c127 c128 c129 c130 c131 c132 c133 c134 c135 c136 c137 c138 c139 c140 c141 c142 c143 c144 c145 c146 c147 c148 c149 c150 c151 c152 c153 c154 c155 c156 c157 c158 c159 c160 c161 c162 c163 c164 c165 c166 c167 c168 c169 c170 c171 c172 c173 c174 c175 c176 c177 c178 c179 c180 c181 c182 c183 c184 c185 c186 c187 c188 c189 c190 c191 c192 c193 c194 c195 c196 c197 c198 c199 c200 c201 c202 c203 c204 c205 c206 c207 c208 c209 c210 c211 c212 c213 c214 c215 c216 c217 c218 c219 c220 c221 c222 c223 c224 c225 c226 c227 c228 c229 c230 : Value} (w wc : World) (n long : Nat) (size : Int) (s : ByteArray) (hn : n < 18446744073709551616) (hs : -9223372036854775808 ≤ size ∧ size ≤ 9223372036854775807) (ht : s.size ≤ 140737488351232) (hlong : long ≤ 4294967295)
    (HB0 : Below w.heap.size w wc) :
    endCode.wp Try.prog (bodyPost Try.prog Try.f3 fun e w' => e = .returned (.bool true) ∧ Below w.heap.size w w') ⟨#[c0, c1, .int .u64 (n : Int), .int .i64 size, .string s, .int .u32 (long : Int), c6, c7, c8, c9, c10, c11, c12, .bool true, c14, c15, c16, c17, c18, c19, c20, c21, c22, c23, c24, c25, c26, c27, c28, c29, c30, c31, c32, c33, c34, c35, c36, c37, c38, c39, c40, c41, c42, c43, c44, c45, c46, c47, c48, c49, c50, c51, c52, c53, c54, c55, c56, c57, c58, c59, c60, c61, c62, c63, c64, c65, c66, c67, c68, c69, c70, c71, c72, c73, c74, c75, c76, c77, c78, c79, c80, c81, c82, c83, c84, c85, c86, c87, c88, c89, c90, c91, c92, c93, c94, c95, c96, c97, c98, c99, c100, c101, c102, c103, c104, c105, c106, c107, c108, c109, c110, c111, c112, c113, c114, c115, c116, c117, c118, c119, c120, c121, c122, c123, c124, c125, c126, c127, c128, c129, c130, c131, c132, c133, c134, c135, c136, c137, c138, c139, c140, c141, c142, c143, c144, c145, c146, c147, c148, c149, c150, c151, c152, c153, c154, c155, c156, c157, c158, c159, c160, c161, c162, c163, c164, c165, c166, c167, c168, c169, c170, c171, c172, c173, c174, c175, c176, c177, c178, c179, c180, c181, c182, c183, c184, c185, c186, c187, c188, c189, c190, c191, c192, c193, c194, c195, c196, c197, c198, c199, c200, c201, c202, c203, c204, c205, c206, c207, c208, c209, c210, c211, c212, c213, c214, c215, c216, c217, c218, c219, c220, c221, c222, c223, c224, c225, c226, c227, c228, c229, c230], []⟩ wc := by
  have HT := hide ht
  have HN := hide hn
  have B0 := hide HB0
  clear HB0
  conv => arg 2; whnf
  by_cases q : (long : Int) % 5 = 0
  · obtain ⟨z, hz⟩ : ∃ z : Nat, long % 70000 = z := ⟨_, rfl⟩
    have hz2 : (long : Int) % 70000 = (z : Int) := by omega
    have hz3 : z < 70000 := by omega
    clear hz
    have hmk := run_make_row' (P := Try.prog) 45 5 (.int .u8 0) 1 Try.underlying45 byte_info rfl .i64 .i64 z (by omega) (by omega)
    have hrow := World.rowIs_made wc (.int .u8 0) z 5
    have hconv := run_convert_bytes_arg (P := Try.prog) (wc.alloc (.cells (madeCells #[.int .u8 0] z) 5)) 45 5 rfl rfl wc.heap.size 0 z z (List.replicate z 0) (by simp) (fun i hi => by
      rw [Nat.zero_add, hrow.cell hi]
      simp [List.getD, hi]) 9 rfl
    have hlen : s.size + (strOfNums (List.replicate z 0)).size ≤ 9223372036854775807 := by rw [strOfNums_size, List.length_replicate]; omega
    have hlen2 : (s ++ strOfNums (List.replicate z 0)).size ≤ maxLen := by rw [ByteArray.size_append]; exact hlen
    have HL2 := hide hlen2
    clear hlen2 hrow ht
    go_upto_if 171 with fail
    rename_i K1 hK1
    have HK1 := hide hK1
    clear hK1
    refine wp_cond_true (by simp [Act.eval, q]) ?_
    go_wp2_with fail
    refine HK1.out _ _ ?_
    exact told w _ n size _ hn hs HL2.out (B0.out.alloc B0.out.size _)
  · go_upto_if 171 with fail
    rename_i K1 hK1
    have HK1 := hide hK1
    clear hK1
    refine wp_cond_false (by simp [Act.eval, q]) ?_
    go_wp2_with fail
    refine HK1.out _ _ ?_
    exact told w _ n size _ hn hs (by unfold maxLen; omega) B0.out

def Deeds (w : World) (A : Option Addr) (len : Nat) : Prop :=
  ∀ i, i < len → ∃ ab ao, A = some ⟨ab, ao, none⟩ ∧ ab < w.heap.size ∧ ∃ kd sz, w.cell? ⟨ab, ao + i * 2, none⟩ = some (.int .u8 kd) ∧ w.cell? ⟨ab, ao + i * 2 + 1, none⟩ = some (.int .i64 sz) ∧ (0 ≤ kd ∧ kd ≤ 255) ∧ (-9223372036854775808 ≤ sz ∧ sz ≤ 9223372036854775807)

set_option maxRecDepth 100000 in
set_option maxHeartbeats 4000000 in
theorem plays_walk (st : ByteArray) (bd : Bool) (A : Option Addr) (len c n long : Nat) (size : Int) (s : ByteArray) (w : World) (hl : len ≤ 9223372036854775807) (hD : Deeds w A len) (hst : st.size ≤ maxLen)
    (hn : n < 18446744073709551616) (hs : -9223372036854775808 ≤ size ∧ size ≤ 9223372036854775807) (ht : s.size ≤ 140737488351232) (hlong : long ≤ 4294967295) :
    Calls Try.prog 3 #[rdV st bd, .slice A len c, .int .u64 n, .int .i64 size, .string s, .int .u32 long] w fun e w' => e = .returned (.bool true) ∧ Below w.heap.size w w' := by
  have HD := hide hD
  have HST := hide hst
  have HN := hide hn
  have HT := hide ht
  clear hD hst hn ht
  go_enter Try.func3, Try.ntmps3
  go_wp2_with fail
  refine (examples_any _).mono ?_
  rintro e w1 ⟨rfl, hb1⟩
  have k1 : Blk w1 w.heap.size 23 #[.string st, .bool bd] := (Blk.new w 23 #[.string st, .bool bd]).below hb1 (by simp)
  have b1 : Below w.heap.size w w1 := Below.trans ((Below.refl _ _).alloc (Nat.le_refl _) _) (hb1.mono (by simp))
  have e1 := (k1.cell 0).trans rfl
  have e2 := (k1.cell 1).trans rfl
  have B1 := hide b1
  have KB := hide k1
  clear hb1 k1 b1
  go_upto_block 0 with fail
  rename_i K0 hK0
  have HK0 := hide hK0
  clear hK0 e1 e2
  have hr : Rds w (w1.alloc (.cells (#[.string st, .bool bd] : Array Value) 28)) w.heap.size w1.heap.size st bd :=
    ⟨B1.out.alloc B1.out.size _, KB.out.alloc _, Blk.new w1 28 _, Nat.le_refl _, B1.out.size⟩
  obtain ⟨x, hx⟩ : ∃ x : Nat, x = w1.heap.size := ⟨_, rfl⟩
  rw [← hx] at hr ⊢
  have HR := hide hr
  clear hr hx
  go_wp2_with fail
  go_loopg [15] 21 (fun mm i wr => ∃ k : Nat, ∃ st' : ByteArray, ∃ bd' : Bool, i = .int .i64 k ∧ k ≤ 20 ∧ k ≤ len ∧ mm = 21 - k ∧ st'.size ≤ st.size ∧ Rds w wr w.heap.size x st' bd')
  case atStart => exact ⟨0, st, bd, rfl, by omega, by omega, by omega, Nat.le_refl _, HR.out⟩
  case round =>
    obtain ⟨i, st', bd', rfl, hi, hil, rfl, hle, hrd⟩ := hrel
    have HRD := hide hrd
    have HLE := hide hle
    clear hrd hle
    by_cases hlt : i < len ∧ i < 20
    · obtain ⟨i1, i2⟩ := hlt
      obtain ⟨ab, ao, hA, hab, kd, sz, d0, d1, b0, b1⟩ := HD.out i i1
      subst hA
      have D0 := hide d0
      have D1 := hide d1
      clear d0 d1
      have j1 : (i : Int) < len := by omega
      have j2 : (i : Int) < 20 := by omega
      go_upto_block 1 with fail
      rename_i K1 hK1
      have HK1 := hide hK1
      clear hK1
      refine wp_block_then ?_
      refine deed w wr w.heap.size x i len c ab ao kd sz st' bd' i1 hl hab D0.out D1.out b0 b1 (Nat.le_trans HLE.out HST.out) HRD.out K1 _ ?_
      intro v16 v17 v18 v19 v20 v21 v22 v23 v24 v25 v26 v27 v28 v29 v30 v31 v32 v33 v57 v58 v59 v60 v61 v62 v63 v64 v65 v66 v67 v68 v69 v70 v71 v72 v73 v74 v75 v76 v77 v78 v79 v80 v81 v82 v83 v84 v85 v86 v87 v88 v89 v90 v91 v92 v93 v94 v95 v96 v97 v98 v99 v100 v101 v102 v103 v104 v105 v106 v107 v108 v109 v110 v111 v112 v113 v114 v115 v116 v117 v118 v119 v120 v121 v122 v123 v124 v125 v126 v127 v128 v129 v130 v131 v132 v133 v134 v135 v136 v137 v138 v139 v140 v141 v142 v143 v144 v145 v146 v147 v148 v149 v150 v151 v152 v153 v154 v155 v156 v157 v158 v159 v160 v161 v162 v163 v164 v165 v166 v167 wy st2 bd2 hle2 hR
      have HR2 := hide hR
      have HLE2 := hide hle2
      clear hR hle2
      refine HK1.out _ _ ?_
      go_wp2_with fail
      go_roundg (21 - (i + 1))
      case measure => omega
      case rel => exact ⟨i + 1, st2, bd2, by go_num, by omega, by omega, rfl, Nat.le_trans HLE2.out HLE.out, HR2.out⟩
    · by_cases j1 : (i : Int) < len
      · have j2 : (20 : Int) ≤ i := by omega
        go_wp2_with fail
        refine HK0.out _ _ ?_
        exact ends w wr n long size s HN.out hs HT.out hlong HRD.out.bel
      · have j2 : (len : Int) ≤ i := by omega
        go_wp2_with fail
        refine HK0.out _ _ ?_
        exact ends w wr n long size s HN.out hs HT.out hlong HRD.out.bel

end Go.Proofs.Ytjneagcomaljdaa
