/-
  Chapter 2: PackBack walked: from where a text is cut short.
-/
import Derived.Test.YtjneagcomaljdaaB1
import Derived.Test.YtjneagcomaljdaaK2
import Derived.Deep.CutBlock
namespace Go.Proofs.Ytjneagcomaljdaa
open Go.RowKit
set_option linter.unusedVariables false

noncomputable def backTailCode : Code := codeAt ((Try.f4.body).getD .skip) [1, 1, 1, 1, 1]

set_option maxRecDepth 100000 in
set_option maxHeartbeats 4000000 in
theorem backTailS {c1 c6 c7 c8 c9 c10 c11 c12 c15 c16 c17 c18 c19 c20 c21 c22 c23 c24 c25 c26 c27 c28 c29 c30 c31 c32 c33 c34 c35 c36 c37 c38 c39 c40 c41 c42 c43 c44 c45 c46 c47 c48 c49 c50 c51 c52 c53 c54 c55 c56 c57 c58 c59 c60 c61 c62 c63 c64 c65 c66 c67 c68 c69 c70 c71 c72 c73 c74 c75 c76 c77 c78 c79 c80 c81 c82 c83 c84 c85 c86 c87 c88 c89 c90 c91 c92 c93 c94 c95 c96 c97 c98 c99 c100 c101 c102 c103 c104 c105 c106 c107 c108 c109 c110 c111 c112 c113 c114 c115 c116 c117 c118 c119 c120 c121 c122 c123 c124 c125 c126 c127 c128 c129 c130 c131 c132 c133 c134 c135 c136 c137 c138 c139 c140 c141 c142 c143 c144 c145 c146 c147 c148 c149 c150 c151 c152 c153 c154 c155 c156 c157 c158 c159 c160 c161 c162 c163 c164 c165 c166 c167 c168 : Value} (w wc : World) (A k q n1 : Nat) (cut : Nat) (s rest T N F M L X Y1 Y2 P1 P2 t2 : ByteArray) (fl p1 p2 f2 : Bool)
    (cT : ∀ W, Calls Try.prog 18 #[.string s] W fun e W' => e = .returned (.tuple #[.string T, .bool true]) ∧ Below W.heap.size W W')
    (cN : ∀ W, Calls Try.prog 20 #[.int .u64 A, .int .i64 (1 + (k : Int))] W fun e W' => e = .returned (.string N) ∧ Below W.heap.size W W')
    (cF : ∀ W, Calls Try.prog 22 #[.bool fl] W fun e W' => e = .returned (.string F) ∧ Below W.heap.size W W')
    (cX : ∀ W, Calls Try.prog 8 #[rdV X false, .int .i64 (1 + (k : Int))] W fun e W' => e = .returned (.tuple #[.int .u64 A, rdV Y1 false]) ∧ Below W.heap.size W W')
    (cY : ∀ W, Calls Try.prog 10 #[rdV Y1 false] W fun e W' => e = .returned (.tuple #[.string s, rdV Y2 false]) ∧ Below W.heap.size W W')
    (cZ : ∀ W, Calls Try.prog 12 #[rdV Y2 false] W fun e W' => e = .returned (.tuple #[.bool fl, rdV rest false]) ∧ Below W.heap.size W W')
    (cP : ∀ W, Calls Try.prog 8 #[rdV (L.extract 0 q) false, .int .i64 (1 + (k : Int))] W fun e W' => e = .returned (.tuple #[.int .u64 n1, rdV P1 p1]) ∧ Below W.heap.size W W')
    (cP2 : ∀ W, Calls Try.prog 10 #[rdV P1 p1] W fun e W' => e = .returned (.tuple #[.string t2, rdV P2 p2]) ∧ Below W.heap.size W W')
    (cP3 : ∀ W, Calls Try.prog 12 #[rdV P2 p2] W fun e W' => e = .returned (.tuple #[.bool f2, rdV ⟨#[]⟩ true]) ∧ Below W.heap.size W W')
    (cD : ∀ W, Calls Try.prog 16 #[rdV rest false] W fun e W' => e = .returned (.bool rest.toList.isEmpty) ∧ Below W.heap.size W W')
    (l1 : N.size + T.size ≤ 9223372036854775807) (l2 : M.size + F.size ≤ 9223372036854775807) (l3 : L.size + rest.size ≤ 9223372036854775807)
    (e1 : N ++ T = M) (e2 : M ++ F = L) (e3 : L ++ rest = X) (hL0 : ¬ (L.size : Int) = 0) (hLe : L.toList.isEmpty = false) (hc : cut ≤ 65535) (hq : (cut : Int) % (L.size : Int) = (q : Int)) (hq2 : (q : Int) ≤ L.size)
    (hs0 : (s.size : Int) ≤ 300)
    (HB0 : Below w.heap.size w wc) :
    backTailCode.wp Try.prog (bodyPost Try.prog Try.f4 fun e w' => e = .returned (.bool true) ∧ Below w.heap.size w w') ⟨#[.int .u64 A, c1, .string s, .bool fl, .string rest, .int .u16 cut, c6, c7, c8, c9, c10, c11, c12, .bool true, .int .i64 (1 + (k : Int)), c15, c16, c17, c18, c19, c20, c21, c22, c23, c24, c25, c26, c27, c28, c29, c30, c31, c32, c33, c34, c35, c36, c37, c38, c39, c40, c41, c42, c43, c44, c45, c46, c47, c48, c49, c50, c51, c52, c53, c54, c55, c56, c57, c58, c59, c60, c61, c62, c63, c64, c65, c66, c67, c68, c69, c70, c71, c72, c73, c74, c75, c76, c77, c78, c79, c80, c81, c82, c83, c84, c85, c86, c87, c88, c89, c90, c91, c92, c93, c94, c95, c96, c97, c98, c99, c100, c101, c102, c103, c104, c105, c106, c107, c108, c109, c110, c111, c112, c113, c114, c115, c116, c117, c118, c119, c120, c121, c122, c123, c124, c125, c126, c127, c128, c129, c130, c131, c132, c133, c134, c135, c136, c137, c138, c139, c140, c141, c142, c143, c144, c145, c146, c147, c148, c149, c150, c151, c152, c153, c154, c155, c156, c157, c158, c159, c160, c161, c162, c163, c164, c165, c166, c167, c168], []⟩ wc := by
  have CT := hide cT
  have CN := hide cN
  have CF := hide cF
  have CX := hide cX
  have CY := hide cY
  have CZ := hide cZ
  have CP := hide cP
  have CP2 := hide cP2
  have CP3 := hide cP3
  have CD := hide cD
  have B0 := hide HB0
  clear cT cN cF cX cY cZ cP cP2 cP3 cD HB0
  conv => arg 2; whnf
  go_wp2_with fail
  refine (CT.out _).mono ?_
  rintro e w1 ⟨rfl, hb1⟩
  have B1 := hide (B0.out.trans (hb1.mono B0.out.size))
  clear hb1 B0
  go_wp2_with fail
  refine (CN.out _).mono ?_
  rintro e w2 ⟨rfl, hb2⟩
  have B2 := hide (B1.out.trans (hb2.mono B1.out.size))
  clear hb2 B1
  go_wp2_with fail
  refine (CF.out _).mono ?_
  rintro e w3 ⟨rfl, hb3⟩
  have B3 := hide (B2.out.trans (hb3.mono B2.out.size))
  clear hb3 B2
  go_wp2_with fail
  refine (CX.out _).mono ?_
  rintro e w4 ⟨rfl, hb4⟩
  have B4 := hide (B3.out.trans (hb4.mono B3.out.size))
  clear hb4 B3
  go_wp2_with fail
  refine (CY.out _).mono ?_
  rintro e w5 ⟨rfl, hb5⟩
  have B5 := hide (after_alloc B4.out hb5).1
  clear hb5 B4
  go_wp2_with fail
  refine (CZ.out _).mono ?_
  rintro e w6 ⟨rfl, hb6⟩
  have B6 := hide (after_alloc B5.out hb6).1
  clear hb6 B5
  go_wp2_with fail
  refine (CP.out _).mono ?_
  rintro e w7 ⟨rfl, hb7⟩
  have B7 := hide (after_alloc B6.out hb7).1
  have K1 := hide (after_alloc B6.out hb7).2
  clear hb7 B6
  go_wp2_with fail
  refine (CP2.out _).mono ?_
  rintro e w8 ⟨rfl, hb8⟩
  have B8 := hide (after_alloc B7.out hb8).1
  have K1n := hide (((K1.out.alloc _)).below hb8 (by have := K1.out.lt; simp; omega))
  clear hb8 B7
  clear K1
  have K1 := hide K1n.out
  clear K1n
  go_wp2_with fail
  refine (CP3.out _).mono ?_
  rintro e w9 ⟨rfl, hb9⟩
  have B9 := hide (after_alloc B8.out hb9).1
  have K1n := hide (((K1.out.alloc _)).below hb9 (by have := K1.out.lt; simp; omega))
  clear hb9 B8
  clear K1
  have K1 := hide K1n.out
  clear K1n
  go_wp2_with fail
  refine (bytesbad 0 _).mono ?_
  rintro e w10 ⟨rfl, hb10⟩
  have B10 := hide (after_alloc B9.out hb10).1
  have K2 := hide (after_alloc B9.out hb10).2
  have K1n := hide (((K1.out.alloc _)).below hb10 (by have := K1.out.lt; simp; omega))
  clear hb10 B9
  clear K1
  have K1 := hide K1n.out
  clear K1n
  have a1 := (K1.out.cell 0).trans rfl
  have a2 := (K1.out.cell 1).trans rfl
  have a3 := (K2.out.cell 1).trans rfl
  have z1 := K1.out.lt
  have z2 := K2.out.lt
  go_wp2_with fail
  refine (CD.out _).mono ?_
  rintro e w11 ⟨rfl, hb11⟩
  have B11 := hide (after_alloc B10.out hb11).1
  have K3 := (after_alloc B10.out hb11).2
  have K2n := (K2.out.alloc _).below hb11 (by have := K2.out.lt; simp; omega)
  clear hb11 B10 a1 a2 a3 z1 z2 K1 K2
  have a3 := (K2n.cell 1).trans rfl
  have a4 := (K3.cell 0).trans rfl
  have a5 := (K3.cell 1).trans rfl
  clear K2n K3
  go_wp2_with fail
  refine (donebad _).mono ?_
  rintro e w12 ⟨rfl, hb12⟩
  have B12 := hide (B11.out.trans (hb12.mono B11.out.size))
  clear hb12 B11
  go_wp2_with fail
  exact bodyPost_ret (v := .bool true) (by simp [results, Try.results4, go_sem]) rfl ⟨rfl, B12.out⟩

set_option maxRecDepth 100000 in
set_option maxHeartbeats 4000000 in
theorem backTailL {c1 c6 c7 c8 c9 c10 c11 c12 c15 c16 c17 c18 c19 c20 c21 c22 c23 c24 c25 c26 c27 c28 c29 c30 c31 c32 c33 c34 c35 c36 c37 c38 c39 c40 c41 c42 c43 c44 c45 c46 c47 c48 c49 c50 c51 c52 c53 c54 c55 c56 c57 c58 c59 c60 c61 c62 c63 c64 c65 c66 c67 c68 c69 c70 c71 c72 c73 c74 c75 c76 c77 c78 c79 c80 c81 c82 c83 c84 c85 c86 c87 c88 c89 c90 c91 c92 c93 c94 c95 c96 c97 c98 c99 c100 c101 c102 c103 c104 c105 c106 c107 c108 c109 c110 c111 c112 c113 c114 c115 c116 c117 c118 c119 c120 c121 c122 c123 c124 c125 c126 c127 c128 c129 c130 c131 c132 c133 c134 c135 c136 c137 c138 c139 c140 c141 c142 c143 c144 c145 c146 c147 c148 c149 c150 c151 c152 c153 c154 c155 c156 c157 c158 c159 c160 c161 c162 c163 c164 c165 c166 c167 c168 : Value} (w wc : World) (A k q n1 : Nat) (cut : Nat) (s0 s rest T N F M L X Y1 Y2 P1 P2 t2 : ByteArray) (fl p1 p2 f2 : Bool)
    (cT : ∀ W, Calls Try.prog 18 #[.string s] W fun e W' => e = .returned (.tuple #[.string T, .bool true]) ∧ Below W.heap.size W W')
    (cN : ∀ W, Calls Try.prog 20 #[.int .u64 A, .int .i64 (1 + (k : Int))] W fun e W' => e = .returned (.string N) ∧ Below W.heap.size W W')
    (cF : ∀ W, Calls Try.prog 22 #[.bool fl] W fun e W' => e = .returned (.string F) ∧ Below W.heap.size W W')
    (cX : ∀ W, Calls Try.prog 8 #[rdV X false, .int .i64 (1 + (k : Int))] W fun e W' => e = .returned (.tuple #[.int .u64 A, rdV Y1 false]) ∧ Below W.heap.size W W')
    (cY : ∀ W, Calls Try.prog 10 #[rdV Y1 false] W fun e W' => e = .returned (.tuple #[.string s, rdV Y2 false]) ∧ Below W.heap.size W W')
    (cZ : ∀ W, Calls Try.prog 12 #[rdV Y2 false] W fun e W' => e = .returned (.tuple #[.bool fl, rdV rest false]) ∧ Below W.heap.size W W')
    (cP : ∀ W, Calls Try.prog 8 #[rdV (L.extract 0 q) false, .int .i64 (1 + (k : Int))] W fun e W' => e = .returned (.tuple #[.int .u64 n1, rdV P1 p1]) ∧ Below W.heap.size W W')
    (cP2 : ∀ W, Calls Try.prog 10 #[rdV P1 p1] W fun e W' => e = .returned (.tuple #[.string t2, rdV P2 p2]) ∧ Below W.heap.size W W')
    (cP3 : ∀ W, Calls Try.prog 12 #[rdV P2 p2] W fun e W' => e = .returned (.tuple #[.bool f2, rdV ⟨#[]⟩ true]) ∧ Below W.heap.size W W')
    (cD : ∀ W, Calls Try.prog 16 #[rdV rest false] W fun e W' => e = .returned (.bool rest.toList.isEmpty) ∧ Below W.heap.size W W')
    (l1 : N.size + T.size ≤ 9223372036854775807) (l2 : M.size + F.size ≤ 9223372036854775807) (l3 : L.size + rest.size ≤ 9223372036854775807)
    (e1 : N ++ T = M) (e2 : M ++ F = L) (e3 : L ++ rest = X) (hL0 : ¬ (L.size : Int) = 0) (hLe : L.toList.isEmpty = false) (hc : cut ≤ 65535) (hq : (cut : Int) % (L.size : Int) = (q : Int)) (hq2 : (q : Int) ≤ L.size)
    (hs0 : (300 : Int) < s0.size) (hs1 : s0.extract 0 300 = s)
    (HB0 : Below w.heap.size w wc) :
    backTailCode.wp Try.prog (bodyPost Try.prog Try.f4 fun e w' => e = .returned (.bool true) ∧ Below w.heap.size w w') ⟨#[.int .u64 A, c1, .string s0, .bool fl, .string rest, .int .u16 cut, c6, c7, c8, c9, c10, c11, c12, .bool true, .int .i64 (1 + (k : Int)), c15, c16, c17, c18, c19, c20, c21, c22, c23, c24, c25, c26, c27, c28, c29, c30, c31, c32, c33, c34, c35, c36, c37, c38, c39, c40, c41, c42, c43, c44, c45, c46, c47, c48, c49, c50, c51, c52, c53, c54, c55, c56, c57, c58, c59, c60, c61, c62, c63, c64, c65, c66, c67, c68, c69, c70, c71, c72, c73, c74, c75, c76, c77, c78, c79, c80, c81, c82, c83, c84, c85, c86, c87, c88, c89, c90, c91, c92, c93, c94, c95, c96, c97, c98, c99, c100, c101, c102, c103, c104, c105, c106, c107, c108, c109, c110, c111, c112, c113, c114, c115, c116, c117, c118, c119, c120, c121, c122, c123, c124, c125, c126, c127, c128, c129, c130, c131, c132, c133, c134, c135, c136, c137, c138, c139, c140, c141, c142, c143, c144, c145, c146, c147, c148, c149, c150, c151, c152, c153, c154, c155, c156, c157, c158, c159, c160, c161, c162, c163, c164, c165, c166, c167, c168], []⟩ wc := by
  have CT := hide cT
  have CN := hide cN
  have CF := hide cF
  have CX := hide cX
  have CY := hide cY
  have CZ := hide cZ
  have CP := hide cP
  have CP2 := hide cP2
  have CP3 := hide cP3
  have CD := hide cD
  have B0 := hide HB0
  clear cT cN cF cX cY cZ cP cP2 cP3 cD HB0
  conv => arg 2; whnf
  go_wp2_with fail
  refine (CT.out _).mono ?_
  rintro e w1 ⟨rfl, hb1⟩
  have B1 := hide (B0.out.trans (hb1.mono B0.out.size))
  clear hb1 B0
  go_wp2_with fail
  refine (CN.out _).mono ?_
  rintro e w2 ⟨rfl, hb2⟩
  have B2 := hide (B1.out.trans (hb2.mono B1.out.size))
  clear hb2 B1
  go_wp2_with fail
  refine (CF.out _).mono ?_
  rintro e w3 ⟨rfl, hb3⟩
  have B3 := hide (B2.out.trans (hb3.mono B2.out.size))
  clear hb3 B2
  go_wp2_with fail
  refine (CX.out _).mono ?_
  rintro e w4 ⟨rfl, hb4⟩
  have B4 := hide (B3.out.trans (hb4.mono B3.out.size))
  clear hb4 B3
  go_wp2_with fail
  refine (CY.out _).mono ?_
  rintro e w5 ⟨rfl, hb5⟩
  have B5 := hide (after_alloc B4.out hb5).1
  clear hb5 B4
  go_wp2_with fail
  refine (CZ.out _).mono ?_
  rintro e w6 ⟨rfl, hb6⟩
  have B6 := hide (after_alloc B5.out hb6).1
  clear hb6 B5
  go_wp2_with fail
  refine (CP.out _).mono ?_
  rintro e w7 ⟨rfl, hb7⟩
  have B7 := hide (after_alloc B6.out hb7).1
  have K1 := hide (after_alloc B6.out hb7).2
  clear hb7 B6
  go_wp2_with fail
  refine (CP2.out _).mono ?_
  rintro e w8 ⟨rfl, hb8⟩
  have B8 := hide (after_alloc B7.out hb8).1
  have K1n := hide (((K1.out.alloc _)).below hb8 (by have := K1.out.lt; simp; omega))
  clear hb8 B7
  clear K1
  have K1 := hide K1n.out
  clear K1n
  go_wp2_with fail
  refine (CP3.out _).mono ?_
  rintro e w9 ⟨rfl, hb9⟩
  have B9 := hide (after_alloc B8.out hb9).1
  have K1n := hide (((K1.out.alloc _)).below hb9 (by have := K1.out.lt; simp; omega))
  clear hb9 B8
  clear K1
  have K1 := hide K1n.out
  clear K1n
  go_wp2_with fail
  refine (bytesbad 0 _).mono ?_
  rintro e w10 ⟨rfl, hb10⟩
  have B10 := hide (after_alloc B9.out hb10).1
  have K2 := hide (after_alloc B9.out hb10).2
  have K1n := hide (((K1.out.alloc _)).below hb10 (by have := K1.out.lt; simp; omega))
  clear hb10 B9
  clear K1
  have K1 := hide K1n.out
  clear K1n
  have a1 := (K1.out.cell 0).trans rfl
  have a2 := (K1.out.cell 1).trans rfl
  have a3 := (K2.out.cell 1).trans rfl
  have z1 := K1.out.lt
  have z2 := K2.out.lt
  go_wp2_with fail
  refine (CD.out _).mono ?_
  rintro e w11 ⟨rfl, hb11⟩
  have B11 := hide (after_alloc B10.out hb11).1
  have K3 := (after_alloc B10.out hb11).2
  have K2n := (K2.out.alloc _).below hb11 (by have := K2.out.lt; simp; omega)
  clear hb11 B10 a1 a2 a3 z1 z2 K1 K2
  have a3 := (K2n.cell 1).trans rfl
  have a4 := (K3.cell 0).trans rfl
  have a5 := (K3.cell 1).trans rfl
  clear K2n K3
  go_wp2_with fail
  refine (donebad _).mono ?_
  rintro e w12 ⟨rfl, hb12⟩
  have B12 := hide (B11.out.trans (hb12.mono B11.out.size))
  clear hb12 B11
  go_wp2_with fail
  exact bodyPost_ret (v := .bool true) (by simp [results, Try.results4, go_sem]) rfl ⟨rfl, B12.out⟩

end Go.Proofs.Ytjneagcomaljdaa
