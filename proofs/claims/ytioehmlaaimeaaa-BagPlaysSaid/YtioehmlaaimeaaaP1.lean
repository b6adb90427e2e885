/-
  Chapter 21: BagPlays: a deed, done to both.
-/
import Derived.Test.YtioehmlaaimeaaaDO
import Derived.Test.YtioehmlaaimeaaaK2
import Derived.Deep.RegionHeld3
import Derived.Deep.CutBlock
namespace Go.Proofs.Ytioehmlaaimeaaa
open Go.RowKit
set_option linter.unusedVariables false

theorem pw_ref {w0 w : World} {b x : Nat} {lb lx : List It} {room : Int} {K : List Kept} (z : It) (h : PW w0 w b lb x lx room K) :
    Calls Try.prog 12 #[z.val] w fun e w' => e = .returned z.val ∧ PW w0 w' b lb x lx room K :=
  (ref_any z w).mono fun _ _ ⟨he, hb⟩ => ⟨he, h.below hb⟩
theorem pw_ditem {w0 w : World} {b x : Nat} {lb lx : List It} {room : Int} {K : List Kept} (kd p : Int) (y : It) (near : Bool) (h : PW w0 w b lb x lx room K)
    (b1 : -9223372036854775808 ≤ y.fr ∧ y.fr ≤ 9223372036854775807) (b2 : -9223372036854775808 ≤ y.to ∧ y.to ≤ 9223372036854775807) (b3 : 0 ≤ y.at_ ∧ y.at_ < 18446744073709551616) (b4 : y.by_.size ≤ maxLen) :
    Calls Try.prog 18 #[.agg (deedV kd y p near)] w fun e w' => e = .returned (deedI y near).val ∧ PW w0 w' b lb x lx room K := by
  cases near with
  | true => exact (ditem_near kd p y w b1 b2 b3 b4).mono fun _ _ ⟨he, hb⟩ => ⟨he, h.below hb⟩
  | false => exact (ditem_far kd p y w).mono fun _ _ ⟨he, hb⟩ => ⟨he, h.below hb⟩
theorem deed_cells {w : World} {ub : Nat} {kd p : Int} {y : It} {near : Bool} (h : Blk w ub 35 (deedV kd y p near)) :
    w.cell? ⟨ub, 0, none⟩ = some (.int .u8 kd) ∧ w.cell? ⟨ub, 1, none⟩ = some (.int .i64 y.fr) ∧ w.cell? ⟨ub, 2, none⟩ = some (.int .i64 y.to) ∧ w.cell? ⟨ub, 3, none⟩ = some (.string y.by_) ∧ w.cell? ⟨ub, 4, none⟩ = some (.int .u64 y.at_) ∧ w.cell? ⟨ub, 5, none⟩ = some (.int .i64 p) ∧ w.cell? ⟨ub, 6, none⟩ = some (.bool near) :=
  ⟨h.cell 0, h.cell 1, h.cell 2, h.cell 3, h.cell 4, h.cell 5, h.cell 6⟩

noncomputable def playDeedCode : Code := codeAt ((Try.f3.body).getD .skip) [1, 1, 1, 1, 1, 1, 1, 1, 0, 1, 0, 0, 1, 0, 0, 1, 1, 0, 1, 0]
set_option maxRecDepth 100000 in
set_option maxHeartbeats 20000000 in
theorem playCopy {c0 c1 c2 c3 c4 c5 c6 c7 c9 c11 c14 c15 c16 c17 c18 c19 c20 c21 c22 c23 c24 c25 c26 c27 c28 c29 c30 c31 c32 c33 c34 c35 c36 c37 c38 c39 c40 c41 c42 c43 c44 c45 c46 c47 c48 c49 c50 c51 c52 c53 c54 c55 c56 c57 c58 c59 c60 c61 c62 c63 c64 c65 c66 c67 c68 c69 c70 c71 c72 c74 c75 c76 c77 c78 c79 c80 c81 c82 c83 c84 c85 c86 c87 c88 c89 c90 c91 c92 c93 c94 c95 c96 c97 c98 c99 c100 c101 c102 c103 c104 c105 c106 c107 c108 c109 c110 c111 c112 c113 c114 c115 c116 c117 c118 c119 c120 c121 c122 c123 c124 c125 c126 c127 c128 c129 c130 c131 c132 c133 c134 c135 c136 c137 c138 c139 c140 c141 c142 c143 c144 c145 c146 c147 c148 c149 c150 c151 c152 c153 c154 c155 c156 c157 c158 c159 c160 c161 c162 c163 c164 c165 c166 c167 c168 c169 c170 c171 c172 c173 c174 c175 c176 c177 c178 c179 c180 c181 c182 c183 c184 c185 c186 c187 c188 c189 c190 c191 c192 c193 c194 c195 c196 c197 c198 c199 c200 c201 c202 c203 c204 c205 : Value} (w wr : World) (b x ub : Nat) (kd p room : Int) (y : It) (near : Bool) (l : List It)
    (b0 : 0 ≤ kd ∧ kd ≤ 255) (b1 : -9223372036854775808 ≤ y.fr ∧ y.fr ≤ 9223372036854775807) (b2 : -9223372036854775808 ≤ y.to ∧ y.to ≤ 9223372036854775807) (b3 : 0 ≤ y.at_ ∧ y.at_ < 18446744073709551616) (b4 : y.by_.size ≤ maxLen)
    (hq : kd % 8 = 6) (hP : PW w wr b l x l room [(ub, 35, (deedV kd y p near))]) (K : Act → World → Prop) (Q : Exit → Act → World → Prop)
    (hK : ∀ (u14 u15 u16 u17 u73 u74 u75 u76 u77 u78 u79 u80 u81 u82 u83 u84 u85 u86 u87 u88 u89 u90 u91 u92 u93 u94 u95 u96 u97 u98 u99 u100 u101 u102 u103 u104 u105 u106 u107 u108 u109 u110 u111 u112 u113 u114 u115 u116 u117 u118 u119 u120 u121 u122 u123 u124 u125 u126 u127 u128 u129 u130 u131 : Value) (wx : World) (l' : List It), PW w wx b l' x l' room [(ub, 35, (deedV kd y p near))] → K ⟨#[c0, c1, c2, c3, c4, c5, c6, c7, .pointer (some ⟨b, 0, none⟩), c9, .pointer (some ⟨x, 0, none⟩), c11, .pointer (some ⟨ub, 0, none⟩), .bool true, u14, u15, u16, u17, c18, c19, c20, c21, c22, c23, c24, c25, c26, c27, c28, c29, c30, c31, c32, c33, c34, c35, c36, c37, c38, c39, c40, c41, c42, c43, c44, c45, c46, c47, c48, c49, c50, c51, c52, c53, c54, c55, c56, c57, c58, c59, c60, c61, c62, c63, c64, c65, c66, c67, c68, c69, c70, c71, c72, u73, u74, u75, u76, u77, u78, u79, u80, u81, u82, u83, u84, u85, u86, u87, u88, u89, u90, u91, u92, u93, u94, u95, u96, u97, u98, u99, u100, u101, u102, u103, u104, u105, u106, u107, u108, u109, u110, u111, u112, u113, u114, u115, u116, u117, u118, u119, u120, u121, u122, u123, u124, u125, u126, u127, u128, u129, u130, u131, c132, c133, c134, c135, c136, c137, c138, c139, c140, c141, c142, c143, c144, c145, c146, c147, c148, c149, c150, c151, c152, c153, c154, c155, c156, c157, c158, c159, c160, c161, c162, c163, c164, c165, c166, c167, c168, c169, c170, c171, c172, c173, c174, c175, c176, c177, c178, c179, c180, c181, c182, c183, c184, c185, c186, c187, c188, c189, c190, c191, c192, c193, c194, c195, c196, c197, c198, c199, c200, c201, c202, c203, c204, c205], []⟩ wx) :
    playDeedCode.wp Try.prog (Exit.then K Q) ⟨#[c0, c1, c2, c3, c4, c5, c6, c7, .pointer (some ⟨b, 0, none⟩), c9, .pointer (some ⟨x, 0, none⟩), c11, .pointer (some ⟨ub, 0, none⟩), .bool true, c14, c15, c16, c17, c18, c19, c20, c21, c22, c23, c24, c25, c26, c27, c28, c29, c30, c31, c32, c33, c34, c35, c36, c37, c38, c39, c40, c41, c42, c43, c44, c45, c46, c47, c48, c49, c50, c51, c52, c53, c54, c55, c56, c57, c58, c59, c60, c61, c62, c63, c64, c65, c66, c67, c68, c69, c70, c71, c72, .int .u8 (kd % 8), c74, c75, c76, c77, c78, c79, c80, c81, c82, c83, c84, c85, c86, c87, c88, c89, c90, c91, c92, c93, c94, c95, c96, c97, c98, c99, c100, c101, c102, c103, c104, c105, c106, c107, c108, c109, c110, c111, c112, c113, c114, c115, c116, c117, c118, c119, c120, c121, c122, c123, c124, c125, c126, c127, c128, c129, c130, c131, c132, c133, c134, c135, c136, c137, c138, c139, c140, c141, c142, c143, c144, c145, c146, c147, c148, c149, c150, c151, c152, c153, c154, c155, c156, c157, c158, c159, c160, c161, c162, c163, c164, c165, c166, c167, c168, c169, c170, c171, c172, c173, c174, c175, c176, c177, c178, c179, c180, c181, c182, c183, c184, c185, c186, c187, c188, c189, c190, c191, c192, c193, c194, c195, c196, c197, c198, c199, c200, c201, c202, c203, c204, c205], []⟩ wr := by
  have HK := hide hK
  have HP := hide hP
  have ku := hP.kept (.head _)
  have lu := ku.lt
  have u0 := (ku.cell 0).trans rfl
  have u1 := (ku.cell 1).trans rfl
  have u2 := (ku.cell 2).trans rfl
  have u3 := (ku.cell 3).trans rfl
  have u4 := (ku.cell 4).trans rfl
  have u5 := (ku.cell 5).trans rfl
  have u6 := (ku.cell 6).trans rfl
  clear hK hP ku
  conv => arg 2; whnf
  rcases hq with hq
  go_wp2_with fail
  go_region_held3 (fun w' => w'.cell? ⟨ub, 5, none⟩ = some (.int .i64 p)) (first | exact u5 | exact g1 | exact g2)
    (first
      | (go_at_call 13; refine (pw_copy p HP.out.drew rfl rfl).mono ?_; rintro e w1 ⟨rfl, h1⟩; have g1 := ((h1.kept (.head _)).cell 5).trans rfl)
      | (go_at_call 14; refine (pw_rcopy p h1 rfl rfl).mono ?_; rintro e w2 ⟨rfl, h2⟩; have g2 := ((h2.kept (.head _)).cell 5).trans rfl))
  go_wp2_with fail
  exact HK.out _ _ _ _ _ _ _ _ _ _ _ _ _ _ _ _ _ _ _ _ _ _ _ _ _ _ _ _ _ _ _ _ _ _ _ _ _ _ _ _ _ _ _ _ _ _ _ _ _ _ _ _ _ _ _ _ _ _ _ _ _ _ _ _ _ h2
set_option maxRecDepth 100000 in
set_option maxHeartbeats 20000000 in
theorem playLast {c0 c1 c2 c3 c4 c5 c6 c7 c9 c11 c14 c15 c16 c17 c18 c19 c20 c21 c22 c23 c24 c25 c26 c27 c28 c29 c30 c31 c32 c33 c34 c35 c36 c37 c38 c39 c40 c41 c42 c43 c44 c45 c46 c47 c48 c49 c50 c51 c52 c53 c54 c55 c56 c57 c58 c59 c60 c61 c62 c63 c64 c65 c66 c67 c68 c69 c70 c71 c72 c74 c75 c76 c77 c78 c79 c80 c81 c82 c83 c84 c85 c86 c87 c88 c89 c90 c91 c92 c93 c94 c95 c96 c97 c98 c99 c100 c101 c102 c103 c104 c105 c106 c107 c108 c109 c110 c111 c112 c113 c114 c115 c116 c117 c118 c119 c120 c121 c122 c123 c124 c125 c126 c127 c128 c129 c130 c131 c132 c133 c134 c135 c136 c137 c138 c139 c140 c141 c142 c143 c144 c145 c146 c147 c148 c149 c150 c151 c152 c153 c154 c155 c156 c157 c158 c159 c160 c161 c162 c163 c164 c165 c166 c167 c168 c169 c170 c171 c172 c173 c174 c175 c176 c177 c178 c179 c180 c181 c182 c183 c184 c185 c186 c187 c188 c189 c190 c191 c192 c193 c194 c195 c196 c197 c198 c199 c200 c201 c202 c203 c204 c205 : Value} (w wr : World) (b x ub : Nat) (kd p room : Int) (y : It) (near : Bool) (l : List It)
    (b0 : 0 ≤ kd ∧ kd ≤ 255) (b1 : -9223372036854775808 ≤ y.fr ∧ y.fr ≤ 9223372036854775807) (b2 : -9223372036854775808 ≤ y.to ∧ y.to ≤ 9223372036854775807) (b3 : 0 ≤ y.at_ ∧ y.at_ < 18446744073709551616) (b4 : y.by_.size ≤ maxLen)
    (hq : kd % 8 = 7) (hP : PW w wr b l x l room [(ub, 35, (deedV kd y p near))]) (K : Act → World → Prop) (Q : Exit → Act → World → Prop)
    (hK : ∀ (u14 u15 u16 u17 u73 u74 u75 u76 u77 u78 u79 u80 u81 u82 u83 u84 u85 u86 u87 u88 u89 u90 u91 u92 u93 u94 u95 u96 u97 u98 u99 u100 u101 u102 u103 u104 u105 u106 u107 u108 u109 u110 u111 u112 u113 u114 u115 u116 u117 u118 u119 u120 u121 u122 u123 u124 u125 u126 u127 u128 u129 u130 u131 : Value) (wx : World) (l' : List It), PW w wx b l' x l' room [(ub, 35, (deedV kd y p near))] → K ⟨#[c0, c1, c2, c3, c4, c5, c6, c7, .pointer (some ⟨b, 0, none⟩), c9, .pointer (some ⟨x, 0, none⟩), c11, .pointer (some ⟨ub, 0, none⟩), .bool true, u14, u15, u16, u17, c18, c19, c20, c21, c22, c23, c24, c25, c26, c27, c28, c29, c30, c31, c32, c33, c34, c35, c36, c37, c38, c39, c40, c41, c42, c43, c44, c45, c46, c47, c48, c49, c50, c51, c52, c53, c54, c55, c56, c57, c58, c59, c60, c61, c62, c63, c64, c65, c66, c67, c68, c69, c70, c71, c72, u73, u74, u75, u76, u77, u78, u79, u80, u81, u82, u83, u84, u85, u86, u87, u88, u89, u90, u91, u92, u93, u94, u95, u96, u97, u98, u99, u100, u101, u102, u103, u104, u105, u106, u107, u108, u109, u110, u111, u112, u113, u114, u115, u116, u117, u118, u119, u120, u121, u122, u123, u124, u125, u126, u127, u128, u129, u130, u131, c132, c133, c134, c135, c136, c137, c138, c139, c140, c141, c142, c143, c144, c145, c146, c147, c148, c149, c150, c151, c152, c153, c154, c155, c156, c157, c158, c159, c160, c161, c162, c163, c164, c165, c166, c167, c168, c169, c170, c171, c172, c173, c174, c175, c176, c177, c178, c179, c180, c181, c182, c183, c184, c185, c186, c187, c188, c189, c190, c191, c192, c193, c194, c195, c196, c197, c198, c199, c200, c201, c202, c203, c204, c205], []⟩ wx) :
    playDeedCode.wp Try.prog (Exit.then K Q) ⟨#[c0, c1, c2, c3, c4, c5, c6, c7, .pointer (some ⟨b, 0, none⟩), c9, .pointer (some ⟨x, 0, none⟩), c11, .pointer (some ⟨ub, 0, none⟩), .bool true, c14, c15, c16, c17, c18, c19, c20, c21, c22, c23, c24, c25, c26, c27, c28, c29, c30, c31, c32, c33, c34, c35, c36, c37, c38, c39, c40, c41, c42, c43, c44, c45, c46, c47, c48, c49, c50, c51, c52, c53, c54, c55, c56, c57, c58, c59, c60, c61, c62, c63, c64, c65, c66, c67, c68, c69, c70, c71, c72, .int .u8 (kd % 8), c74, c75, c76, c77, c78, c79, c80, c81, c82, c83, c84, c85, c86, c87, c88, c89, c90, c91, c92, c93, c94, c95, c96, c97, c98, c99, c100, c101, c102, c103, c104, c105, c106, c107, c108, c109, c110, c111, c112, c113, c114, c115, c116, c117, c118, c119, c120, c121, c122, c123, c124, c125, c126, c127, c128, c129, c130, c131, c132, c133, c134, c135, c136, c137, c138, c139, c140, c141, c142, c143, c144, c145, c146, c147, c148, c149, c150, c151, c152, c153, c154, c155, c156, c157, c158, c159, c160, c161, c162, c163, c164, c165, c166, c167, c168, c169, c170, c171, c172, c173, c174, c175, c176, c177, c178, c179, c180, c181, c182, c183, c184, c185, c186, c187, c188, c189, c190, c191, c192, c193, c194, c195, c196, c197, c198, c199, c200, c201, c202, c203, c204, c205], []⟩ wr := by
  have HK := hide hK
  have HP := hide hP
  have ku := hP.kept (.head _)
  have lu := ku.lt
  have u0 := (ku.cell 0).trans rfl
  have u1 := (ku.cell 1).trans rfl
  have u2 := (ku.cell 2).trans rfl
  have u3 := (ku.cell 3).trans rfl
  have u4 := (ku.cell 4).trans rfl
  have u5 := (ku.cell 5).trans rfl
  have u6 := (ku.cell 6).trans rfl
  clear hK hP ku
  conv => arg 2; whnf
  rcases hq with hq
  go_wp2_with fail
  go_region_held3 (fun w' => w'.cell? ⟨ub, 5, none⟩ = some (.int .i64 p)) (first | exact u5 | exact g1 | exact g2)
    (first
      | (go_at_call 15; refine (pw_last p HP.out.drew rfl rfl).mono ?_; rintro e w1 ⟨rfl, h1⟩; have g1 := ((h1.kept (.head _)).cell 5).trans rfl)
      | (go_at_call 16; refine (pw_rlast p h1 rfl rfl).mono ?_; rintro e w2 ⟨rfl, h2⟩; have g2 := ((h2.kept (.head _)).cell 5).trans rfl))
  go_wp2_with fail
  exact HK.out _ _ _ _ _ _ _ _ _ _ _ _ _ _ _ _ _ _ _ _ _ _ _ _ _ _ _ _ _ _ _ _ _ _ _ _ _ _ _ _ _ _ _ _ _ _ _ _ _ _ _ _ _ _ _ _ _ _ _ _ _ _ _ _ _ h2
set_option maxRecDepth 100000 in
set_option maxHeartbeats 20000000 in
theorem playTake {c0 c1 c2 c3 c4 c5 c6 c7 c9 c11 c14 c15 c16 c17 c18 c19 c20 c21 c22 c23 c24 c25 c26 c27 c28 c29 c30 c31 c32 c33 c34 c35 c36 c37 c38 c39 c40 c41 c42 c43 c44 c45 c46 c47 c48 c49 c50 c51 c52 c53 c54 c55 c56 c57 c58 c59 c60 c61 c62 c63 c64 c65 c66 c67 c68 c69 c70 c71 c72 c74 c75 c76 c77 c78 c79 c80 c81 c82 c83 c84 c85 c86 c87 c88 c89 c90 c91 c92 c93 c94 c95 c96 c97 c98 c99 c100 c101 c102 c103 c104 c105 c106 c107 c108 c109 c110 c111 c112 c113 c114 c115 c116 c117 c118 c119 c120 c121 c122 c123 c124 c125 c126 c127 c128 c129 c130 c131 c132 c133 c134 c135 c136 c137 c138 c139 c140 c141 c142 c143 c144 c145 c146 c147 c148 c149 c150 c151 c152 c153 c154 c155 c156 c157 c158 c159 c160 c161 c162 c163 c164 c165 c166 c167 c168 c169 c170 c171 c172 c173 c174 c175 c176 c177 c178 c179 c180 c181 c182 c183 c184 c185 c186 c187 c188 c189 c190 c191 c192 c193 c194 c195 c196 c197 c198 c199 c200 c201 c202 c203 c204 c205 : Value} (w wr : World) (b x ub : Nat) (kd p room : Int) (y : It) (near : Bool) (l : List It)
    (b0 : 0 ≤ kd ∧ kd ≤ 255) (b1 : -9223372036854775808 ≤ y.fr ∧ y.fr ≤ 9223372036854775807) (b2 : -9223372036854775808 ≤ y.to ∧ y.to ≤ 9223372036854775807) (b3 : 0 ≤ y.at_ ∧ y.at_ < 18446744073709551616) (b4 : y.by_.size ≤ maxLen)
    (hq : kd % 8 = 4 ∨ kd % 8 = 5) (hP : PW w wr b l x l room [(ub, 35, (deedV kd y p near))]) (K : Act → World → Prop) (Q : Exit → Act → World → Prop)
    (hK : ∀ (u14 u15 u16 u17 u73 u74 u75 u76 u77 u78 u79 u80 u81 u82 u83 u84 u85 u86 u87 u88 u89 u90 u91 u92 u93 u94 u95 u96 u97 u98 u99 u100 u101 u102 u103 u104 u105 u106 u107 u108 u109 u110 u111 u112 u113 u114 u115 u116 u117 u118 u119 u120 u121 u122 u123 u124 u125 u126 u127 u128 u129 u130 u131 : Value) (wx : World) (l' : List It), PW w wx b l' x l' room [(ub, 35, (deedV kd y p near))] → K ⟨#[c0, c1, c2, c3, c4, c5, c6, c7, .pointer (some ⟨b, 0, none⟩), c9, .pointer (some ⟨x, 0, none⟩), c11, .pointer (some ⟨ub, 0, none⟩), .bool true, u14, u15, u16, u17, c18, c19, c20, c21, c22, c23, c24, c25, c26, c27, c28, c29, c30, c31, c32, c33, c34, c35, c36, c37, c38, c39, c40, c41, c42, c43, c44, c45, c46, c47, c48, c49, c50, c51, c52, c53, c54, c55, c56, c57, c58, c59, c60, c61, c62, c63, c64, c65, c66, c67, c68, c69, c70, c71, c72, u73, u74, u75, u76, u77, u78, u79, u80, u81, u82, u83, u84, u85, u86, u87, u88, u89, u90, u91, u92, u93, u94, u95, u96, u97, u98, u99, u100, u101, u102, u103, u104, u105, u106, u107, u108, u109, u110, u111, u112, u113, u114, u115, u116, u117, u118, u119, u120, u121, u122, u123, u124, u125, u126, u127, u128, u129, u130, u131, c132, c133, c134, c135, c136, c137, c138, c139, c140, c141, c142, c143, c144, c145, c146, c147, c148, c149, c150, c151, c152, c153, c154, c155, c156, c157, c158, c159, c160, c161, c162, c163, c164, c165, c166, c167, c168, c169, c170, c171, c172, c173, c174, c175, c176, c177, c178, c179, c180, c181, c182, c183, c184, c185, c186, c187, c188, c189, c190, c191, c192, c193, c194, c195, c196, c197, c198, c199, c200, c201, c202, c203, c204, c205], []⟩ wx) :
    playDeedCode.wp Try.prog (Exit.then K Q) ⟨#[c0, c1, c2, c3, c4, c5, c6, c7, .pointer (some ⟨b, 0, none⟩), c9, .pointer (some ⟨x, 0, none⟩), c11, .pointer (some ⟨ub, 0, none⟩), .bool true, c14, c15, c16, c17, c18, c19, c20, c21, c22, c23, c24, c25, c26, c27, c28, c29, c30, c31, c32, c33, c34, c35, c36, c37, c38, c39, c40, c41, c42, c43, c44, c45, c46, c47, c48, c49, c50, c51, c52, c53, c54, c55, c56, c57, c58, c59, c60, c61, c62, c63, c64, c65, c66, c67, c68, c69, c70, c71, c72, .int .u8 (kd % 8), c74, c75, c76, c77, c78, c79, c80, c81, c82, c83, c84, c85, c86, c87, c88, c89, c90, c91, c92, c93, c94, c95, c96, c97, c98, c99, c100, c101, c102, c103, c104, c105, c106, c107, c108, c109, c110, c111, c112, c113, c114, c115, c116, c117, c118, c119, c120, c121, c122, c123, c124, c125, c126, c127, c128, c129, c130, c131, c132, c133, c134, c135, c136, c137, c138, c139, c140, c141, c142, c143, c144, c145, c146, c147, c148, c149, c150, c151, c152, c153, c154, c155, c156, c157, c158, c159, c160, c161, c162, c163, c164, c165, c166, c167, c168, c169, c170, c171, c172, c173, c174, c175, c176, c177, c178, c179, c180, c181, c182, c183, c184, c185, c186, c187, c188, c189, c190, c191, c192, c193, c194, c195, c196, c197, c198, c199, c200, c201, c202, c203, c204, c205], []⟩ wr := by
  have HK := hide hK
  have HP := hide hP
  have ku := hP.kept (.head _)
  have lu := ku.lt
  have u0 := (ku.cell 0).trans rfl
  have u1 := (ku.cell 1).trans rfl
  have u2 := (ku.cell 2).trans rfl
  have u3 := (ku.cell 3).trans rfl
  have u4 := (ku.cell 4).trans rfl
  have u5 := (ku.cell 5).trans rfl
  have u6 := (ku.cell 6).trans rfl
  clear hK hP ku
  conv => arg 2; whnf
  obtain ⟨z, hz⟩ : ∃ z, z = takeX l p := ⟨_, rfl⟩
  obtain ⟨ez, hez⟩ : ∃ ez, ez = pickE l p := ⟨_, rfl⟩
  obtain ⟨l', hl'⟩ : ∃ l', l' = takeL l p := ⟨_, rfl⟩
  have HZ := hide hz
  have HE := hide hez
  have HL := hide hl'
  clear hz hez hl'
  have hq38 := fun (W : World) => eq_ritem z z W
  have hgd := fun (op : BinOp) (o1 o2 : Operand) (xs ys : Array Value) (W : World) => guard_ritem op o1 o2 xs ys W
  have hse := eqIt_self z
  rcases hq with hq | hq
  · go_wp2_with fail
    refine (pw_take p HP.out HZ.out.symm HE.out.symm HL.out.symm).mono ?_
    rintro e w1 ⟨rfl, h1⟩
    have H1 := hide (h1.push #[.int .i64 z.fr, .int .i64 z.to, .string z.by_, .int .u64 z.at_] 33)
    have v5 := ((h1.kept (.head _)).cell 5).trans rfl
    have l5 := (h1.kept (.head _)).lt
    clear h1
    go_wp2_with fail
    refine (pw_rtake p H1.out HZ.out.symm HE.out.symm HL.out.symm).mono ?_
    rintro e w2 ⟨rfl, h2⟩
    have h3 := h2.push #[.int .i64 z.fr, .int .i64 z.to, .string z.by_, .int .u64 z.at_] 38
    have H3 := hide h3
    have ka := h3.kept (.tail _ (.head _))
    have kb := h3.kept (.head _)
    have la := ka.lt
    have lb := kb.lt
    have a0 := (ka.cell 0).trans rfl
    have a1 := (ka.cell 1).trans rfl
    have a2 := (ka.cell 2).trans rfl
    have a3 := (ka.cell 3).trans rfl
    have r0 := (kb.cell 0).trans rfl
    have r1 := (kb.cell 1).trans rfl
    have r2 := (kb.cell 2).trans rfl
    have r3 := (kb.cell 3).trans rfl
    have KB := hide kb
    clear h2 h3 ka kb v5 l5 u0 u1 u2 u3 u4 u5 u6
    go_wp2_with fail
    go_region_held3 (fun w' => w'.cell? ⟨w1.heap.size, 0, none⟩ = some (.int .i64 z.fr) ∧ w'.cell? ⟨w1.heap.size, 1, none⟩ = some (.int .i64 z.to) ∧ w'.cell? ⟨w1.heap.size, 2, none⟩ = some (.string z.by_) ∧ w'.cell? ⟨w1.heap.size, 3, none⟩ = some (.int .u64 z.at_) ∧
        w'.cell? ⟨w2.heap.size, 0, none⟩ = some (.int .i64 z.fr) ∧ w'.cell? ⟨w2.heap.size, 1, none⟩ = some (.int .i64 z.to) ∧ w'.cell? ⟨w2.heap.size, 2, none⟩ = some (.string z.by_) ∧ w'.cell? ⟨w2.heap.size, 3, none⟩ = some (.int .u64 z.at_)) (first | exact ⟨a0, a1, a2, a3, r0, r1, r2, r3⟩ | exact ⟨d0, d1, d2, d3, f0, f1, f2, f3⟩)
      ((go_at_call 12; refine (ref_any z _).mono ?_; rintro e w4 ⟨rfl, hb4⟩; have d0 := (hb4.cell (p := ⟨w1.heap.size, 0, none⟩) la).trans a0; have d1 := (hb4.cell (p := ⟨w1.heap.size, 1, none⟩) la).trans a1; have d2 := (hb4.cell (p := ⟨w1.heap.size, 2, none⟩) la).trans a2; have d3 := (hb4.cell (p := ⟨w1.heap.size, 3, none⟩) la).trans a3; have f0 := (hb4.cell (p := ⟨w2.heap.size, 0, none⟩) lb).trans r0; have f1 := (hb4.cell (p := ⟨w2.heap.size, 1, none⟩) lb).trans r1; have f2 := (hb4.cell (p := ⟨w2.heap.size, 2, none⟩) lb).trans r2; have f3 := (hb4.cell (p := ⟨w2.heap.size, 3, none⟩) lb).trans r3))
    go_wp2_with fail
    exact HK.out _ _ _ _ _ _ _ _ _ _ _ _ _ _ _ _ _ _ _ _ _ _ _ _ _ _ _ _ _ _ _ _ _ _ _ _ _ _ _ _ _ _ _ _ _ _ _ _ _ _ _ _ _ _ _ _ _ _ _ _ _ _ _ _ l' ((H3.out.drew.below hb4).less (fun q hq => List.mem_cons_of_mem _ (List.mem_cons_of_mem _ hq)))
  · go_wp2_with fail
    refine (pw_take p HP.out HZ.out.symm HE.out.symm HL.out.symm).mono ?_
    rintro e w1 ⟨rfl, h1⟩
    have H1 := hide (h1.push #[.int .i64 z.fr, .int .i64 z.to, .string z.by_, .int .u64 z.at_] 33)
    have v5 := ((h1.kept (.head _)).cell 5).trans rfl
    have l5 := (h1.kept (.head _)).lt
    clear h1
    go_wp2_with fail
    refine (pw_rtake p H1.out HZ.out.symm HE.out.symm HL.out.symm).mono ?_
    rintro e w2 ⟨rfl, h2⟩
    have h3 := h2.push #[.int .i64 z.fr, .int .i64 z.to, .string z.by_, .int .u64 z.at_] 38
    have H3 := hide h3
    have ka := h3.kept (.tail _ (.head _))
    have kb := h3.kept (.head _)
    have la := ka.lt
    have lb := kb.lt
    have a0 := (ka.cell 0).trans rfl
    have a1 := (ka.cell 1).trans rfl
    have a2 := (ka.cell 2).trans rfl
    have a3 := (ka.cell 3).trans rfl
    have r0 := (kb.cell 0).trans rfl
    have r1 := (kb.cell 1).trans rfl
    have r2 := (kb.cell 2).trans rfl
    have r3 := (kb.cell 3).trans rfl
    have KB := hide kb
    clear h2 h3 ka kb v5 l5 u0 u1 u2 u3 u4 u5 u6
    go_wp2_with fail
    go_region_held3 (fun w' => w'.cell? ⟨w1.heap.size, 0, none⟩ = some (.int .i64 z.fr) ∧ w'.cell? ⟨w1.heap.size, 1, none⟩ = some (.int .i64 z.to) ∧ w'.cell? ⟨w1.heap.size, 2, none⟩ = some (.string z.by_) ∧ w'.cell? ⟨w1.heap.size, 3, none⟩ = some (.int .u64 z.at_) ∧
        w'.cell? ⟨w2.heap.size, 0, none⟩ = some (.int .i64 z.fr) ∧ w'.cell? ⟨w2.heap.size, 1, none⟩ = some (.int .i64 z.to) ∧ w'.cell? ⟨w2.heap.size, 2, none⟩ = some (.string z.by_) ∧ w'.cell? ⟨w2.heap.size, 3, none⟩ = some (.int .u64 z.at_)) (first | exact ⟨a0, a1, a2, a3, r0, r1, r2, r3⟩ | exact ⟨d0, d1, d2, d3, f0, f1, f2, f3⟩)
      ((go_at_call 12; refine (ref_any z _).mono ?_; rintro e w4 ⟨rfl, hb4⟩; have d0 := (hb4.cell (p := ⟨w1.heap.size, 0, none⟩) la).trans a0; have d1 := (hb4.cell (p := ⟨w1.heap.size, 1, none⟩) la).trans a1; have d2 := (hb4.cell (p := ⟨w1.heap.size, 2, none⟩) la).trans a2; have d3 := (hb4.cell (p := ⟨w1.heap.size, 3, none⟩) la).trans a3; have f0 := (hb4.cell (p := ⟨w2.heap.size, 0, none⟩) lb).trans r0; have f1 := (hb4.cell (p := ⟨w2.heap.size, 1, none⟩) lb).trans r1; have f2 := (hb4.cell (p := ⟨w2.heap.size, 2, none⟩) lb).trans r2; have f3 := (hb4.cell (p := ⟨w2.heap.size, 3, none⟩) lb).trans r3))
    go_wp2_with fail
    exact HK.out _ _ _ _ _ _ _ _ _ _ _ _ _ _ _ _ _ _ _ _ _ _ _ _ _ _ _ _ _ _ _ _ _ _ _ _ _ _ _ _ _ _ _ _ _ _ _ _ _ _ _ _ _ _ _ _ _ _ _ _ _ _ _ _ l' ((H3.out.drew.below hb4).less (fun q hq => List.mem_cons_of_mem _ (List.mem_cons_of_mem _ hq)))

set_option maxRecDepth 100000 in
set_option maxHeartbeats 20000000 in
theorem playPut {c0 c1 c2 c3 c4 c5 c6 c7 c9 c11 c14 c15 c16 c17 c18 c19 c20 c21 c22 c23 c24 c25 c26 c27 c28 c29 c30 c31 c32 c33 c34 c35 c36 c37 c38 c39 c40 c41 c42 c43 c44 c45 c46 c47 c48 c49 c50 c51 c52 c53 c54 c55 c56 c57 c58 c59 c60 c61 c62 c63 c64 c65 c66 c67 c68 c69 c70 c71 c72 c74 c75 c76 c77 c78 c79 c80 c81 c82 c83 c84 c85 c86 c87 c88 c89 c90 c91 c92 c93 c94 c95 c96 c97 c98 c99 c100 c101 c102 c103 c104 c105 c106 c107 c108 c109 c110 c111 c112 c113 c114 c115 c116 c117 c118 c119 c120 c121 c122 c123 c124 c125 c126 c127 c128 c129 c130 c131 c132 c133 c134 c135 c136 c137 c138 c139 c140 c141 c142 c143 c144 c145 c146 c147 c148 c149 c150 c151 c152 c153 c154 c155 c156 c157 c158 c159 c160 c161 c162 c163 c164 c165 c166 c167 c168 c169 c170 c171 c172 c173 c174 c175 c176 c177 c178 c179 c180 c181 c182 c183 c184 c185 c186 c187 c188 c189 c190 c191 c192 c193 c194 c195 c196 c197 c198 c199 c200 c201 c202 c203 c204 c205 : Value} (w wr : World) (b x ub : Nat) (kd p room : Int) (y : It) (near : Bool) (l : List It)
    (b0 : 0 ≤ kd ∧ kd ≤ 255) (b1 : -9223372036854775808 ≤ y.fr ∧ y.fr ≤ 9223372036854775807) (b2 : -9223372036854775808 ≤ y.to ∧ y.to ≤ 9223372036854775807) (b3 : 0 ≤ y.at_ ∧ y.at_ < 18446744073709551616) (b4 : y.by_.size ≤ maxLen)
    (hq : kd % 8 ≤ 3) (hP : PW w wr b l x l room [(ub, 35, (deedV kd y p near))]) (K : Act → World → Prop) (Q : Exit → Act → World → Prop)
    (hK : ∀ (u14 u15 u16 u17 u73 u74 u75 u76 u77 u78 u79 u80 u81 u82 u83 u84 u85 u86 u87 u88 u89 u90 u91 u92 u93 u94 u95 u96 u97 u98 u99 u100 u101 u102 u103 u104 u105 u106 u107 u108 u109 u110 u111 u112 u113 u114 u115 u116 u117 u118 u119 u120 u121 u122 u123 u124 u125 u126 u127 u128 u129 u130 u131 : Value) (wx : World) (l' : List It), PW w wx b l' x l' room [(ub, 35, (deedV kd y p near))] → K ⟨#[c0, c1, c2, c3, c4, c5, c6, c7, .pointer (some ⟨b, 0, none⟩), c9, .pointer (some ⟨x, 0, none⟩), c11, .pointer (some ⟨ub, 0, none⟩), .bool true, u14, u15, u16, u17, c18, c19, c20, c21, c22, c23, c24, c25, c26, c27, c28, c29, c30, c31, c32, c33, c34, c35, c36, c37, c38, c39, c40, c41, c42, c43, c44, c45, c46, c47, c48, c49, c50, c51, c52, c53, c54, c55, c56, c57, c58, c59, c60, c61, c62, c63, c64, c65, c66, c67, c68, c69, c70, c71, c72, u73, u74, u75, u76, u77, u78, u79, u80, u81, u82, u83, u84, u85, u86, u87, u88, u89, u90, u91, u92, u93, u94, u95, u96, u97, u98, u99, u100, u101, u102, u103, u104, u105, u106, u107, u108, u109, u110, u111, u112, u113, u114, u115, u116, u117, u118, u119, u120, u121, u122, u123, u124, u125, u126, u127, u128, u129, u130, u131, c132, c133, c134, c135, c136, c137, c138, c139, c140, c141, c142, c143, c144, c145, c146, c147, c148, c149, c150, c151, c152, c153, c154, c155, c156, c157, c158, c159, c160, c161, c162, c163, c164, c165, c166, c167, c168, c169, c170, c171, c172, c173, c174, c175, c176, c177, c178, c179, c180, c181, c182, c183, c184, c185, c186, c187, c188, c189, c190, c191, c192, c193, c194, c195, c196, c197, c198, c199, c200, c201, c202, c203, c204, c205], []⟩ wx) :
    playDeedCode.wp Try.prog (Exit.then K Q) ⟨#[c0, c1, c2, c3, c4, c5, c6, c7, .pointer (some ⟨b, 0, none⟩), c9, .pointer (some ⟨x, 0, none⟩), c11, .pointer (some ⟨ub, 0, none⟩), .bool true, c14, c15, c16, c17, c18, c19, c20, c21, c22, c23, c24, c25, c26, c27, c28, c29, c30, c31, c32, c33, c34, c35, c36, c37, c38, c39, c40, c41, c42, c43, c44, c45, c46, c47, c48, c49, c50, c51, c52, c53, c54, c55, c56, c57, c58, c59, c60, c61, c62, c63, c64, c65, c66, c67, c68, c69, c70, c71, c72, .int .u8 (kd % 8), c74, c75, c76, c77, c78, c79, c80, c81, c82, c83, c84, c85, c86, c87, c88, c89, c90, c91, c92, c93, c94, c95, c96, c97, c98, c99, c100, c101, c102, c103, c104, c105, c106, c107, c108, c109, c110, c111, c112, c113, c114, c115, c116, c117, c118, c119, c120, c121, c122, c123, c124, c125, c126, c127, c128, c129, c130, c131, c132, c133, c134, c135, c136, c137, c138, c139, c140, c141, c142, c143, c144, c145, c146, c147, c148, c149, c150, c151, c152, c153, c154, c155, c156, c157, c158, c159, c160, c161, c162, c163, c164, c165, c166, c167, c168, c169, c170, c171, c172, c173, c174, c175, c176, c177, c178, c179, c180, c181, c182, c183, c184, c185, c186, c187, c188, c189, c190, c191, c192, c193, c194, c195, c196, c197, c198, c199, c200, c201, c202, c203, c204, c205], []⟩ wr := by
  have HK := hide hK
  have HP := hide hP
  have ku := hP.kept (.head _)
  have lu := ku.lt
  have u0 := (ku.cell 0).trans rfl
  have u1 := (ku.cell 1).trans rfl
  have u2 := (ku.cell 2).trans rfl
  have u3 := (ku.cell 3).trans rfl
  have u4 := (ku.cell 4).trans rfl
  have u5 := (ku.cell 5).trans rfl
  have u6 := (ku.cell 6).trans rfl
  clear hK hP ku
  conv => arg 2; whnf
  obtain ⟨z, hz⟩ : ∃ z, z = deedI y near := ⟨_, rfl⟩
  have HZ := hide hz
  obtain ⟨q, hqq⟩ : ∃ q, kd % 8 = q := ⟨_, rfl⟩
  have q4 : (q == 4) = false := beq_false_of_ne (by omega)
  have q5 : (q == 5) = false := beq_false_of_ne (by omega)
  have q6 : (q == 6) = false := beq_false_of_ne (by omega)
  have q7 : (q == 7) = false := beq_false_of_ne (by omega)
  rw [hqq]
  clear hz hq hqq
  go_wp2_with fail
  go_region_held3 (fun w' => w'.cell? ⟨ub, 0, none⟩ = some (.int .u8 kd) ∧ w'.cell? ⟨ub, 1, none⟩ = some (.int .i64 y.fr) ∧ w'.cell? ⟨ub, 2, none⟩ = some (.int .i64 y.to) ∧ w'.cell? ⟨ub, 3, none⟩ = some (.string y.by_) ∧ w'.cell? ⟨ub, 4, none⟩ = some (.int .u64 y.at_) ∧ w'.cell? ⟨ub, 5, none⟩ = some (.int .i64 p) ∧ w'.cell? ⟨ub, 6, none⟩ = some (.bool near)) (first | exact ⟨u0, u1, u2, u3, u4, u5, u6⟩ | exact s1 | exact s2 | exact s3 | exact s4 | exact s5)
    (first
      | (go_at_call 18; refine (pw_ditem kd p y near HP.out.drew b1 b2 b3 b4).mono ?_; rw [← HZ.out]; rintro e w1 ⟨rfl, h1⟩; have s1 := deed_cells (h1.kept (.head _)))
      | (go_at_call 17; refine (pw_put z h1 rfl rfl).mono ?_; rintro e w2 ⟨rfl, h2⟩; have s2 := deed_cells (h2.kept (.head _)))
      | (go_at_call 18; refine (pw_ditem kd p y near h2 b1 b2 b3 b4).mono ?_; rw [← HZ.out]; rintro e w3 ⟨rfl, h3⟩; have s3 := deed_cells (h3.kept (.head _)))
      | (go_at_call 12; refine (pw_ref z h3).mono ?_; rintro e w4 ⟨rfl, h4⟩; have s4 := deed_cells (h4.kept (.head _)))
      | (go_at_call 19; refine (pw_rput z h4 rfl rfl).mono ?_; rintro e w5 ⟨rfl, h5⟩; have s5 := deed_cells (h5.kept (.head _))))
  go_wp2_with fail
  exact HK.out _ _ _ _ _ _ _ _ _ _ _ _ _ _ _ _ _ _ _ _ _ _ _ _ _ _ _ _ _ _ _ _ _ _ _ _ _ _ _ _ _ _ _ _ _ _ _ _ _ _ _ _ _ _ _ _ _ _ _ _ _ _ _ _ _ h5

end Go.Proofs.Ytioehmlaaimeaaa
