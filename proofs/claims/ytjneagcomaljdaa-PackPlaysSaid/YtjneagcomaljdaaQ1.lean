/-
  Chapter 2: PackPlays: each of the four ways to read, walked through its text.
-/
import Derived.Test.YtjneagcomaljdaaL1
import Derived.Test.YtjneagcomaljdaaK2
import Derived.Deep.RegionHeld3
import Derived.Deep.CutBlock
namespace Go.Proofs.Ytjneagcomaljdaa
open Go.RowKit
set_option linter.unusedVariables false

/-- Both readers: the same is left, as well read. -/
structure Rds (w wx : World) (b x : Nat) (st : ByteArray) (bd : Bool) : Prop where
  bel : Below w.heap.size w wx
  kb : Blk wx b 23 #[.string st, .bool bd]
  kx : Blk wx x 28 #[.string st, .bool bd]
  gb : w.heap.size ≤ b
  gx : w.heap.size ≤ x

/-- Between the stores: what each reader holds, apart. -/
structure Rd2 (w wx : World) (b x : Nat) (st : ByteArray) (bd : Bool) (s2 : ByteArray) (b2 : Bool) : Prop where
  bel : Below w.heap.size w wx
  kb : Blk wx b 23 #[.string st, .bool bd]
  kx : Blk wx x 28 #[.string s2, .bool b2]
  gb : w.heap.size ≤ b
  gx : w.heap.size ≤ x

theorem Rds.below {w wx wy : World} {b x : Nat} {st : ByteArray} {bd : Bool} {B : Nat} (h : Rds w wx b x st bd) (hb : Below B wx wy) (hB : wx.heap.size ≤ B) : Rds w wy b x st bd :=
  ⟨h.bel.trans (hb.mono (by have := h.bel.size; omega)), h.kb.below hb (by have := h.kb.lt; omega), h.kx.below hb (by have := h.kx.lt; omega), h.gb, h.gx⟩
theorem Rds.alloc {w wx : World} {b x : Nat} {st : ByteArray} {bd : Bool} (h : Rds w wx b x st bd) (o : Obj) : Rds w (wx.alloc o) b x st bd :=
  ⟨h.bel.alloc h.bel.size o, h.kb.alloc o, h.kx.alloc o, h.gb, h.gx⟩
theorem Rds.drew {w wx : World} {b x : Nat} {st : ByteArray} {bd : Bool} (h : Rds w wx b x st bd) : Rds w wx.drew b x st bd := ⟨h.bel.drew, h.kb.drew, h.kx.drew, h.gb, h.gx⟩
theorem Rds.split {w wx : World} {b x : Nat} {st : ByteArray} {bd : Bool} (h : Rds w wx b x st bd) : Rd2 w wx b x st bd st bd := ⟨h.bel, h.kb, h.kx, h.gb, h.gx⟩
theorem Rd2.join {w wx : World} {b x : Nat} {st : ByteArray} {bd : Bool} (h : Rd2 w wx b x st bd st bd) : Rds w wx b x st bd := ⟨h.bel, h.kb, h.kx, h.gb, h.gx⟩
theorem Rd2.b0 {w wx : World} {b x : Nat} {st s2 : ByteArray} {bd b2 : Bool} (h : Rd2 w wx b x st bd s2 b2) (hn : b ≠ x) (s : ByteArray) : Rd2 w (wx.setCell ⟨b, 0, none⟩ (.string s)) b x s bd s2 b2 :=
  ⟨h.bel.setCell h.gb _, h.kb.set_ 0 _, h.kx.far (Ne.symm hn) _, h.gb, h.gx⟩
theorem Rd2.b1 {w wx : World} {b x : Nat} {st s2 : ByteArray} {bd b2 : Bool} (h : Rd2 w wx b x st bd s2 b2) (hn : b ≠ x) (f : Bool) : Rd2 w (wx.setCell ⟨b, 1, none⟩ (.bool f)) b x st f s2 b2 :=
  ⟨h.bel.setCell h.gb _, h.kb.set_ 1 _, h.kx.far (Ne.symm hn) _, h.gb, h.gx⟩
theorem Rd2.x0 {w wx : World} {b x : Nat} {st s2 : ByteArray} {bd b2 : Bool} (h : Rd2 w wx b x st bd s2 b2) (hn : b ≠ x) (s : ByteArray) : Rd2 w (wx.setCell ⟨x, 0, none⟩ (.string s)) b x st bd s b2 :=
  ⟨h.bel.setCell h.gx _, h.kb.far hn _, h.kx.set_ 0 _, h.gb, h.gx⟩
theorem Rd2.x1 {w wx : World} {b x : Nat} {st s2 : ByteArray} {bd b2 : Bool} (h : Rd2 w wx b x st bd s2 b2) (hn : b ≠ x) (f : Bool) : Rd2 w (wx.setCell ⟨x, 1, none⟩ (.bool f)) b x st bd s2 f :=
  ⟨h.bel.setCell h.gx _, h.kb.far hn _, h.kx.set_ 1 _, h.gb, h.gx⟩

noncomputable def readNumCode : Code := codeAt ((Try.f3.body).getD .skip) [1, 1, 1, 1, 0, 1, 0, 0, 1, 0, 0, 1, 1, 1, 0, 1, 0, 1, 0]

set_option maxRecDepth 100000 in
set_option maxHeartbeats 4000000 in
theorem readNum {c0 c1 c2 c3 c4 c5 c7 c8 c9 c10 c11 c12 c13 c15 c17 c18 c19 c20 c21 c22 c23 c24 c25 c26 c27 c28 c29 c30 c31 c32 c33 c34 c35 c36 c37 c38 c39 c40 c41 c42 c43 c44 c45 c46 c47 c48 c49 c50 c51 c52 c53 c54 c55 c56 c57 c58 c59 c60 c61 c62 c63 c64 c65 c66 c67 c68 c69 c70 c71 c72 c73 c74 c75 c76 c77 c78 c79 c80 c81 c82 c83 c84 c85 c86 c87 c88 c89 c90 c91 c92 c93 c94 c95 c96 c97 c98 c99 c100 c101 c102 c103 c104 c105 c106 c107 c108 c109 c110 c111 c112 c113 c114 c115 c116 c117 c118 c119 c120 c121 c122 c123 c124 c125 c126 c127 c128 c129 c130 c131 c132 c133 c134 c135 c136 c137 c138 c139 c140 c141 c142 c143 c144 c145 c146 c147 c148 c149 c150 c151 c152 c153 c154 c155 c156 c157 c158 c159 c160 c161 c162 c163 c164 c165 c166 c167 c168 c169 c170 c171 c172 c173 c174 c175 c176 c177 c178 c179 c180 c181 c182 c183 c184 c185 c186 c187 c188 c189 c190 c191 c192 c193 c194 c195 c196 c197 c198 c199 c200 c201 c202 c203 c204 c205 c206 c207 c208 c209 c210 c211 c212 c213 c214 c215 c216 c217 c218 c219 c220 c221 c222 c223 c224 c225 c226 c227 c228 c229 c230 : Value} (w wc : World) (b x : Nat) (st st' : ByteArray) (bd bd' : Bool) (n : Nat) (kk : Int)
    (cA : ∀ W, Calls Try.prog 8 #[rdV st bd, .int .i64 kk] W fun e W' => e = .returned (.tuple #[.int .u64 n, rdV st' bd']) ∧ Below W.heap.size W W')
    (cB : ∀ W, Calls Try.prog 9 #[rdV st bd, .int .i64 kk] W fun e W' => e = .returned (.tuple #[.int .u64 n, rdV st' bd']) ∧ Below W.heap.size W W')
    (T : Rds w wc b x st bd) (K : Act → World → Prop) (Q : Exit → Act → World → Prop)
    (hK : ∀ (u18 u19 u20 u21 u75 u76 u77 u78 u79 u80 u81 u82 u83 u84 u85 u86 u87 u88 u89 u90 u91 : Value) (wx : World), Rds w wx b x st' bd' → K ⟨#[c0, c1, c2, c3, c4, c5, .pointer (some ⟨b, 0, none⟩), c7, c8, c9, c10, c11, c12, c13, .pointer (some ⟨x, 0, none⟩), c15, .int .i64 kk, .bool true, u18, u19, u20, u21, c22, c23, c24, c25, c26, c27, c28, c29, c30, c31, c32, c33, c34, c35, c36, c37, c38, c39, c40, c41, c42, c43, c44, c45, c46, c47, c48, c49, c50, c51, c52, c53, c54, c55, c56, c57, c58, c59, c60, c61, c62, c63, c64, c65, c66, c67, c68, c69, c70, c71, c72, c73, c74, u75, u76, u77, u78, u79, u80, u81, u82, u83, u84, u85, u86, u87, u88, u89, u90, u91, c92, c93, c94, c95, c96, c97, c98, c99, c100, c101, c102, c103, c104, c105, c106, c107, c108, c109, c110, c111, c112, c113, c114, c115, c116, c117, c118, c119, c120, c121, c122, c123, c124, c125, c126, c127, c128, c129, c130, c131, c132, c133, c134, c135, c136, c137, c138, c139, c140, c141, c142, c143, c144, c145, c146, c147, c148, c149, c150, c151, c152, c153, c154, c155, c156, c157, c158, c159, c160, c161, c162, c163, c164, c165, c166, c167, c168, c169, c170, c171, c172, c173, c174, c175, c176, c177, c178, c179, c180, c181, c182, c183, c184, c185, c186, c187, c188, c189, c190, c191, c192, c193, c194, c195, c196, c197, c198, c199, c200, c201, c202, c203, c204, c205, c206, c207, c208, c209, c210, c211, c212, c213, c214, c215, c216, c217, c218, c219, c220, c221, c222, c223, c224, c225, c226, c227, c228, c229, c230], []⟩ wx) :
    readNumCode.wp Try.prog (Exit.then K Q) ⟨#[c0, c1, c2, c3, c4, c5, .pointer (some ⟨b, 0, none⟩), c7, c8, c9, c10, c11, c12, c13, .pointer (some ⟨x, 0, none⟩), c15, .int .i64 kk, c17, c18, c19, c20, c21, c22, c23, c24, c25, c26, c27, c28, c29, c30, c31, c32, c33, c34, c35, c36, c37, c38, c39, c40, c41, c42, c43, c44, c45, c46, c47, c48, c49, c50, c51, c52, c53, c54, c55, c56, c57, c58, c59, c60, c61, c62, c63, c64, c65, c66, c67, c68, c69, c70, c71, c72, c73, c74, c75, c76, c77, c78, c79, c80, c81, c82, c83, c84, c85, c86, c87, c88, c89, c90, c91, c92, c93, c94, c95, c96, c97, c98, c99, c100, c101, c102, c103, c104, c105, c106, c107, c108, c109, c110, c111, c112, c113, c114, c115, c116, c117, c118, c119, c120, c121, c122, c123, c124, c125, c126, c127, c128, c129, c130, c131, c132, c133, c134, c135, c136, c137, c138, c139, c140, c141, c142, c143, c144, c145, c146, c147, c148, c149, c150, c151, c152, c153, c154, c155, c156, c157, c158, c159, c160, c161, c162, c163, c164, c165, c166, c167, c168, c169, c170, c171, c172, c173, c174, c175, c176, c177, c178, c179, c180, c181, c182, c183, c184, c185, c186, c187, c188, c189, c190, c191, c192, c193, c194, c195, c196, c197, c198, c199, c200, c201, c202, c203, c204, c205, c206, c207, c208, c209, c210, c211, c212, c213, c214, c215, c216, c217, c218, c219, c220, c221, c222, c223, c224, c225, c226, c227, c228, c229, c230], []⟩ wc := by
  have CA := hide cA
  have CB := hide cB
  have HK := hide hK
  have hbx : b ≠ x := T.kb.ne_ T.kx (by decide)
  have HBX := hide hbx
  have e1 := (T.kb.cell 0).trans rfl
  have e2 := (T.kb.cell 1).trans rfl
  have HT := hide T
  clear cA cB hK hbx T
  conv => arg 2; whnf
  go_wp2_with fail
  refine (CA.out _).mono ?_
  rintro e w1 ⟨rfl, hb1⟩
  have t1 := HT.out.below hb1 (Nat.le_refl _)
  have HT1 := hide t1
  have e3 := (t1.kx.cell 0).trans rfl
  have e4 := (t1.kx.cell 1).trans rfl
  have z1 := t1.kx.lt
  clear e1 e2 hb1 t1
  go_wp2_with fail
  refine (CB.out _).mono ?_
  rintro e w2 ⟨rfl, hb2⟩
  have t2 := (HT1.out.alloc (.cells (#[.string st', .bool bd'] : Array Value) 23)).below hb2 (Nat.le_refl _)
  have k1 : Blk w2 w1.heap.size 23 #[.string st', .bool bd'] := (Blk.new w1 23 #[.string st', .bool bd']).below hb2 (by simp)
  have HT2 := hide t2
  have h1 := (t2.kb.cell 0).trans rfl
  have h2 := (t2.kb.cell 1).trans rfl
  have h3 := (t2.kx.cell 0).trans rfl
  have h4 := (t2.kx.cell 1).trans rfl
  have f1 := t2.kb.frozen 0
  have f2 := t2.kb.frozen 1
  have f3 := t2.kx.frozen 0
  have f4 := t2.kx.frozen 1
  have g1 := (k1.cell 0).trans rfl
  have g2 := (k1.cell 1).trans rfl
  have z2 := t2.kx.lt
  have z3 := t2.kb.lt
  have z4 := k1.lt
  have n1 := k1.ne_ t2.kx (by decide)
  have n2 : b ≠ w1.heap.size := fun h => by have := HT1.out.kb.lt; omega
  have n3 : x ≠ w1.heap.size := fun h => by have := HT1.out.kx.lt; omega
  have hbx := HBX.out
  clear hb2 t2 k1 e3 e4 z1
  go_wp2_with fail
  refine HK.out _ _ _ _ _ _ _ _ _ _ _ _ _ _ _ _ _ _ _ _ _ _ ?_
  exact (((((HT2.out.split.b0 HBX.out _).b1 HBX.out _).x0 HBX.out _).x1 HBX.out _).join.alloc _)

noncomputable def readTextCode : Code := codeAt ((Try.f3.body).getD .skip) [1, 1, 1, 1, 0, 1, 0, 0, 1, 0, 0, 1, 1, 1, 0, 1, 0, 1, 1, 1, 0]

set_option maxRecDepth 100000 in
set_option maxHeartbeats 4000000 in
theorem readText {c0 c1 c2 c3 c4 c5 c7 c8 c9 c10 c11 c12 c13 c15 c16 c17 c18 c19 c20 c21 c22 c23 c24 c25 c26 c27 c28 c29 c30 c31 c32 c33 c34 c35 c36 c37 c38 c39 c40 c41 c42 c43 c44 c45 c46 c47 c48 c49 c50 c51 c52 c53 c54 c55 c56 c57 c58 c59 c60 c61 c62 c63 c64 c65 c66 c67 c68 c69 c70 c71 c72 c73 c74 c75 c76 c77 c78 c79 c80 c81 c82 c83 c84 c85 c86 c87 c88 c89 c90 c91 c92 c93 c94 c95 c96 c97 c98 c99 c100 c101 c102 c103 c104 c105 c106 c107 c108 c109 c110 c111 c112 c113 c114 c115 c116 c117 c118 c119 c120 c121 c122 c123 c124 c125 c126 c127 c128 c129 c130 c131 c132 c133 c134 c135 c136 c137 c138 c139 c140 c141 c142 c143 c144 c145 c146 c147 c148 c149 c150 c151 c152 c153 c154 c155 c156 c157 c158 c159 c160 c161 c162 c163 c164 c165 c166 c167 c168 c169 c170 c171 c172 c173 c174 c175 c176 c177 c178 c179 c180 c181 c182 c183 c184 c185 c186 c187 c188 c189 c190 c191 c192 c193 c194 c195 c196 c197 c198 c199 c200 c201 c202 c203 c204 c205 c206 c207 c208 c209 c210 c211 c212 c213 c214 c215 c216 c217 c218 c219 c220 c221 c222 c223 c224 c225 c226 c227 c228 c229 c230 : Value} (w wc : World) (b x : Nat) (st st' : ByteArray) (bd bd' : Bool) (t : ByteArray) (kk : Int)
    (cA : ∀ W, Calls Try.prog 10 #[rdV st bd] W fun e W' => e = .returned (.tuple #[.string t, rdV st' bd']) ∧ Below W.heap.size W W')
    (cB : ∀ W, Calls Try.prog 11 #[rdV st bd] W fun e W' => e = .returned (.tuple #[.string t, rdV st' bd']) ∧ Below W.heap.size W W')
    (T : Rds w wc b x st bd) (K : Act → World → Prop) (Q : Exit → Act → World → Prop)
    (hK : ∀ (u22 u23 u24 u25 u94 u95 u96 u97 u98 u99 u100 u101 u102 u103 u104 u105 u106 u107 u108 : Value) (wx : World), Rds w wx b x st' bd' → K ⟨#[c0, c1, c2, c3, c4, c5, .pointer (some ⟨b, 0, none⟩), c7, c8, c9, c10, c11, c12, c13, .pointer (some ⟨x, 0, none⟩), c15, c16, .bool true, c18, c19, c20, c21, u22, u23, u24, u25, c26, c27, c28, c29, c30, c31, c32, c33, c34, c35, c36, c37, c38, c39, c40, c41, c42, c43, c44, c45, c46, c47, c48, c49, c50, c51, c52, c53, c54, c55, c56, c57, c58, c59, c60, c61, c62, c63, c64, c65, c66, c67, c68, c69, c70, c71, c72, c73, c74, c75, c76, c77, c78, c79, c80, c81, c82, c83, c84, c85, c86, c87, c88, c89, c90, c91, c92, c93, u94, u95, u96, u97, u98, u99, u100, u101, u102, u103, u104, u105, u106, u107, u108, c109, c110, c111, c112, c113, c114, c115, c116, c117, c118, c119, c120, c121, c122, c123, c124, c125, c126, c127, c128, c129, c130, c131, c132, c133, c134, c135, c136, c137, c138, c139, c140, c141, c142, c143, c144, c145, c146, c147, c148, c149, c150, c151, c152, c153, c154, c155, c156, c157, c158, c159, c160, c161, c162, c163, c164, c165, c166, c167, c168, c169, c170, c171, c172, c173, c174, c175, c176, c177, c178, c179, c180, c181, c182, c183, c184, c185, c186, c187, c188, c189, c190, c191, c192, c193, c194, c195, c196, c197, c198, c199, c200, c201, c202, c203, c204, c205, c206, c207, c208, c209, c210, c211, c212, c213, c214, c215, c216, c217, c218, c219, c220, c221, c222, c223, c224, c225, c226, c227, c228, c229, c230], []⟩ wx) :
    readTextCode.wp Try.prog (Exit.then K Q) ⟨#[c0, c1, c2, c3, c4, c5, .pointer (some ⟨b, 0, none⟩), c7, c8, c9, c10, c11, c12, c13, .pointer (some ⟨x, 0, none⟩), c15, c16, c17, c18, c19, c20, c21, c22, c23, c24, c25, c26, c27, c28, c29, c30, c31, c32, c33, c34, c35, c36, c37, c38, c39, c40, c41, c42, c43, c44, c45, c46, c47, c48, c49, c50, c51, c52, c53, c54, c55, c56, c57, c58, c59, c60, c61, c62, c63, c64, c65, c66, c67, c68, c69, c70, c71, c72, c73, c74, c75, c76, c77, c78, c79, c80, c81, c82, c83, c84, c85, c86, c87, c88, c89, c90, c91, c92, c93, c94, c95, c96, c97, c98, c99, c100, c101, c102, c103, c104, c105, c106, c107, c108, c109, c110, c111, c112, c113, c114, c115, c116, c117, c118, c119, c120, c121, c122, c123, c124, c125, c126, c127, c128, c129, c130, c131, c132, c133, c134, c135, c136, c137, c138, c139, c140, c141, c142, c143, c144, c145, c146, c147, c148, c149, c150, c151, c152, c153, c154, c155, c156, c157, c158, c159, c160, c161, c162, c163, c164, c165, c166, c167, c168, c169, c170, c171, c172, c173, c174, c175, c176, c177, c178, c179, c180, c181, c182, c183, c184, c185, c186, c187, c188, c189, c190, c191, c192, c193, c194, c195, c196, c197, c198, c199, c200, c201, c202, c203, c204, c205, c206, c207, c208, c209, c210, c211, c212, c213, c214, c215, c216, c217, c218, c219, c220, c221, c222, c223, c224, c225, c226, c227, c228, c229, c230], []⟩ wc := by
  have CA := hide cA
  have CB := hide cB
  have HK := hide hK
  have hbx : b ≠ x := T.kb.ne_ T.kx (by decide)
  have HBX := hide hbx
  have e1 := (T.kb.cell 0).trans rfl
  have e2 := (T.kb.cell 1).trans rfl
  have HT := hide T
  clear cA cB hK hbx T
  conv => arg 2; whnf
  go_wp2_with fail
  refine (CA.out _).mono ?_
  rintro e w1 ⟨rfl, hb1⟩
  have t1 := HT.out.below hb1 (Nat.le_refl _)
  have HT1 := hide t1
  have e3 := (t1.kx.cell 0).trans rfl
  have e4 := (t1.kx.cell 1).trans rfl
  have z1 := t1.kx.lt
  clear e1 e2 hb1 t1
  go_wp2_with fail
  refine (CB.out _).mono ?_
  rintro e w2 ⟨rfl, hb2⟩
  have t2 := (HT1.out.alloc (.cells (#[.string st', .bool bd'] : Array Value) 23)).below hb2 (Nat.le_refl _)
  have k1 : Blk w2 w1.heap.size 23 #[.string st', .bool bd'] := (Blk.new w1 23 #[.string st', .bool bd']).below hb2 (by simp)
  have HT2 := hide t2
  have h1 := (t2.kb.cell 0).trans rfl
  have h2 := (t2.kb.cell 1).trans rfl
  have h3 := (t2.kx.cell 0).trans rfl
  have h4 := (t2.kx.cell 1).trans rfl
  have f1 := t2.kb.frozen 0
  have f2 := t2.kb.frozen 1
  have f3 := t2.kx.frozen 0
  have f4 := t2.kx.frozen 1
  have g1 := (k1.cell 0).trans rfl
  have g2 := (k1.cell 1).trans rfl
  have z2 := t2.kx.lt
  have z3 := t2.kb.lt
  have z4 := k1.lt
  have n1 := k1.ne_ t2.kx (by decide)
  have n2 : b ≠ w1.heap.size := fun h => by have := HT1.out.kb.lt; omega
  have n3 : x ≠ w1.heap.size := fun h => by have := HT1.out.kx.lt; omega
  have hbx := HBX.out
  clear hb2 t2 k1 e3 e4 z1
  go_wp2_with fail
  refine HK.out _ _ _ _ _ _ _ _ _ _ _ _ _ _ _ _ _ _ _ _ ?_
  exact (((((HT2.out.split.b0 HBX.out _).b1 HBX.out _).x0 HBX.out _).x1 HBX.out _).join.alloc _)

noncomputable def readFlagCode : Code := codeAt ((Try.f3.body).getD .skip) [1, 1, 1, 1, 0, 1, 0, 0, 1, 0, 0, 1, 1, 1, 0, 1, 0, 1, 1, 1, 1, 1, 0]

set_option maxRecDepth 100000 in
set_option maxHeartbeats 4000000 in
theorem readFlag {c0 c1 c2 c3 c4 c5 c7 c8 c9 c10 c11 c12 c13 c15 c16 c17 c18 c19 c20 c21 c22 c23 c24 c25 c26 c27 c28 c29 c30 c31 c32 c33 c34 c35 c36 c37 c38 c39 c40 c41 c42 c43 c44 c45 c46 c47 c48 c49 c50 c51 c52 c53 c54 c55 c56 c57 c58 c59 c60 c61 c62 c63 c64 c65 c66 c67 c68 c69 c70 c71 c72 c73 c74 c75 c76 c77 c78 c79 c80 c81 c82 c83 c84 c85 c86 c87 c88 c89 c90 c91 c92 c93 c94 c95 c96 c97 c98 c99 c100 c101 c102 c103 c104 c105 c106 c107 c108 c109 c110 c111 c112 c113 c114 c115 c116 c117 c118 c119 c120 c121 c122 c123 c124 c125 c126 c127 c128 c129 c130 c131 c132 c133 c134 c135 c136 c137 c138 c139 c140 c141 c142 c143 c144 c145 c146 c147 c148 c149 c150 c151 c152 c153 c154 c155 c156 c157 c158 c159 c160 c161 c162 c163 c164 c165 c166 c167 c168 c169 c170 c171 c172 c173 c174 c175 c176 c177 c178 c179 c180 c181 c182 c183 c184 c185 c186 c187 c188 c189 c190 c191 c192 c193 c194 c195 c196 c197 c198 c199 c200 c201 c202 c203 c204 c205 c206 c207 c208 c209 c210 c211 c212 c213 c214 c215 c216 c217 c218 c219 c220 c221 c222 c223 c224 c225 c226 c227 c228 c229 c230 : Value} (w wc : World) (b x : Nat) (st st' : ByteArray) (bd bd' : Bool) (t : Bool) (kk : Int)
    (cA : ∀ W, Calls Try.prog 12 #[rdV st bd] W fun e W' => e = .returned (.tuple #[.bool t, rdV st' bd']) ∧ Below W.heap.size W W')
    (cB : ∀ W, Calls Try.prog 13 #[rdV st bd] W fun e W' => e = .returned (.tuple #[.bool t, rdV st' bd']) ∧ Below W.heap.size W W')
    (T : Rds w wc b x st bd) (K : Act → World → Prop) (Q : Exit → Act → World → Prop)
    (hK : ∀ (u26 u27 u28 u29 u111 u112 u113 u114 u115 u116 u117 u118 u119 u120 u121 u122 u123 u124 u125 : Value) (wx : World), Rds w wx b x st' bd' → K ⟨#[c0, c1, c2, c3, c4, c5, .pointer (some ⟨b, 0, none⟩), c7, c8, c9, c10, c11, c12, c13, .pointer (some ⟨x, 0, none⟩), c15, c16, .bool true, c18, c19, c20, c21, c22, c23, c24, c25, u26, u27, u28, u29, c30, c31, c32, c33, c34, c35, c36, c37, c38, c39, c40, c41, c42, c43, c44, c45, c46, c47, c48, c49, c50, c51, c52, c53, c54, c55, c56, c57, c58, c59, c60, c61, c62, c63, c64, c65, c66, c67, c68, c69, c70, c71, c72, c73, c74, c75, c76, c77, c78, c79, c80, c81, c82, c83, c84, c85, c86, c87, c88, c89, c90, c91, c92, c93, c94, c95, c96, c97, c98, c99, c100, c101, c102, c103, c104, c105, c106, c107, c108, c109, c110, u111, u112, u113, u114, u115, u116, u117, u118, u119, u120, u121, u122, u123, u124, u125, c126, c127, c128, c129, c130, c131, c132, c133, c134, c135, c136, c137, c138, c139, c140, c141, c142, c143, c144, c145, c146, c147, c148, c149, c150, c151, c152, c153, c154, c155, c156, c157, c158, c159, c160, c161, c162, c163, c164, c165, c166, c167, c168, c169, c170, c171, c172, c173, c174, c175, c176, c177, c178, c179, c180, c181, c182, c183, c184, c185, c186, c187, c188, c189, c190, c191, c192, c193, c194, c195, c196, c197, c198, c199, c200, c201, c202, c203, c204, c205, c206, c207, c208, c209, c210, c211, c212, c213, c214, c215, c216, c217, c218, c219, c220, c221, c222, c223, c224, c225, c226, c227, c228, c229, c230], []⟩ wx) :
    readFlagCode.wp Try.prog (Exit.then K Q) ⟨#[c0, c1, c2, c3, c4, c5, .pointer (some ⟨b, 0, none⟩), c7, c8, c9, c10, c11, c12, c13, .pointer (some ⟨x, 0, none⟩), c15, c16, c17, c18, c19, c20, c21, c22, c23, c24, c25, c26, c27, c28, c29, c30, c31, c32, c33, c34, c35, c36, c37, c38, c39, c40, c41, c42, c43, c44, c45, c46, c47, c48, c49, c50, c51, c52, c53, c54, c55, c56, c57, c58, c59, c60, c61, c62, c63, c64, c65, c66, c67, c68, c69, c70, c71, c72, c73, c74, c75, c76, c77, c78, c79, c80, c81, c82, c83, c84, c85, c86, c87, c88, c89, c90, c91, c92, c93, c94, c95, c96, c97, c98, c99, c100, c101, c102, c103, c104, c105, c106, c107, c108, c109, c110, c111, c112, c113, c114, c115, c116, c117, c118, c119, c120, c121, c122, c123, c124, c125, c126, c127, c128, c129, c130, c131, c132, c133, c134, c135, c136, c137, c138, c139, c140, c141, c142, c143, c144, c145, c146, c147, c148, c149, c150, c151, c152, c153, c154, c155, c156, c157, c158, c159, c160, c161, c162, c163, c164, c165, c166, c167, c168, c169, c170, c171, c172, c173, c174, c175, c176, c177, c178, c179, c180, c181, c182, c183, c184, c185, c186, c187, c188, c189, c190, c191, c192, c193, c194, c195, c196, c197, c198, c199, c200, c201, c202, c203, c204, c205, c206, c207, c208, c209, c210, c211, c212, c213, c214, c215, c216, c217, c218, c219, c220, c221, c222, c223, c224, c225, c226, c227, c228, c229, c230], []⟩ wc := by
  have CA := hide cA
  have CB := hide cB
  have HK := hide hK
  have hbx : b ≠ x := T.kb.ne_ T.kx (by decide)
  have HBX := hide hbx
  have e1 := (T.kb.cell 0).trans rfl
  have e2 := (T.kb.cell 1).trans rfl
  have HT := hide T
  clear cA cB hK hbx T
  conv => arg 2; whnf
  go_wp2_with fail
  refine (CA.out _).mono ?_
  rintro e w1 ⟨rfl, hb1⟩
  have t1 := HT.out.below hb1 (Nat.le_refl _)
  have HT1 := hide t1
  have e3 := (t1.kx.cell 0).trans rfl
  have e4 := (t1.kx.cell 1).trans rfl
  have z1 := t1.kx.lt
  clear e1 e2 hb1 t1
  go_wp2_with fail
  refine (CB.out _).mono ?_
  rintro e w2 ⟨rfl, hb2⟩
  have t2 := (HT1.out.alloc (.cells (#[.string st', .bool bd'] : Array Value) 23)).below hb2 (Nat.le_refl _)
  have k1 : Blk w2 w1.heap.size 23 #[.string st', .bool bd'] := (Blk.new w1 23 #[.string st', .bool bd']).below hb2 (by simp)
  have HT2 := hide t2
  have h1 := (t2.kb.cell 0).trans rfl
  have h2 := (t2.kb.cell 1).trans rfl
  have h3 := (t2.kx.cell 0).trans rfl
  have h4 := (t2.kx.cell 1).trans rfl
  have f1 := t2.kb.frozen 0
  have f2 := t2.kb.frozen 1
  have f3 := t2.kx.frozen 0
  have f4 := t2.kx.frozen 1
  have g1 := (k1.cell 0).trans rfl
  have g2 := (k1.cell 1).trans rfl
  have z2 := t2.kx.lt
  have z3 := t2.kb.lt
  have z4 := k1.lt
  have n1 := k1.ne_ t2.kx (by decide)
  have n2 : b ≠ w1.heap.size := fun h => by have := HT1.out.kb.lt; omega
  have n3 : x ≠ w1.heap.size := fun h => by have := HT1.out.kx.lt; omega
  have hbx := HBX.out
  clear hb2 t2 k1 e3 e4 z1
  go_wp2_with fail
  refine HK.out _ _ _ _ _ _ _ _ _ _ _ _ _ _ _ _ _ _ _ _ ?_
  exact (((((HT2.out.split.b0 HBX.out _).b1 HBX.out _).x0 HBX.out _).x1 HBX.out _).join.alloc _)

noncomputable def readBytesCode : Code := codeAt ((Try.f3.body).getD .skip) [1, 1, 1, 1, 0, 1, 0, 0, 1, 0, 0, 1, 1, 1, 0, 1, 0, 1, 1, 1, 1, 1, 1, 1, 0]

set_option maxRecDepth 100000 in
set_option maxHeartbeats 4000000 in
theorem readBytes {c0 c1 c2 c3 c4 c5 c7 c8 c9 c10 c11 c12 c13 c15 c17 c18 c19 c20 c21 c22 c23 c24 c25 c26 c27 c28 c29 c30 c31 c32 c33 c34 c35 c36 c37 c38 c39 c40 c41 c42 c43 c44 c45 c46 c47 c48 c49 c50 c51 c52 c53 c54 c55 c56 c57 c58 c59 c60 c61 c62 c63 c64 c65 c66 c67 c68 c69 c70 c71 c72 c73 c74 c75 c76 c77 c78 c79 c80 c81 c82 c83 c84 c85 c86 c87 c88 c89 c90 c91 c92 c93 c94 c95 c96 c97 c98 c99 c100 c101 c102 c103 c104 c105 c106 c107 c108 c109 c110 c111 c112 c113 c114 c115 c116 c117 c118 c119 c120 c121 c122 c123 c124 c125 c126 c127 c128 c129 c130 c131 c132 c133 c134 c135 c136 c137 c138 c139 c140 c141 c142 c143 c144 c145 c146 c147 c148 c149 c150 c151 c152 c153 c154 c155 c156 c157 c158 c159 c160 c161 c162 c163 c164 c165 c166 c167 c168 c169 c170 c171 c172 c173 c174 c175 c176 c177 c178 c179 c180 c181 c182 c183 c184 c185 c186 c187 c188 c189 c190 c191 c192 c193 c194 c195 c196 c197 c198 c199 c200 c201 c202 c203 c204 c205 c206 c207 c208 c209 c210 c211 c212 c213 c214 c215 c216 c217 c218 c219 c220 c221 c222 c223 c224 c225 c226 c227 c228 c229 c230 : Value} (w wc : World) (b x : Nat) (st st' : ByteArray) (bd bd' : Bool) (t : ByteArray) (kk : Int)
    (cA : ∀ W, Calls Try.prog 14 #[rdV st bd, .int .i64 kk] W fun e W' => e = .returned (.tuple #[.string t, rdV st' bd']) ∧ Below W.heap.size W W')
    (cB : ∀ W, Calls Try.prog 15 #[rdV st bd, .int .i64 kk] W fun e W' => e = .returned (.tuple #[.string t, rdV st' bd']) ∧ Below W.heap.size W W')
    (T : Rds w wc b x st bd) (K : Act → World → Prop) (Q : Exit → Act → World → Prop)
    (hK : ∀ (u30 u31 u32 u33 u128 u129 u130 u131 u132 u133 u134 u135 u136 u137 u138 u139 u140 u141 u142 u143 u144 : Value) (wx : World), Rds w wx b x st' bd' → K ⟨#[c0, c1, c2, c3, c4, c5, .pointer (some ⟨b, 0, none⟩), c7, c8, c9, c10, c11, c12, c13, .pointer (some ⟨x, 0, none⟩), c15, .int .i64 kk, .bool true, c18, c19, c20, c21, c22, c23, c24, c25, c26, c27, c28, c29, u30, u31, u32, u33, c34, c35, c36, c37, c38, c39, c40, c41, c42, c43, c44, c45, c46, c47, c48, c49, c50, c51, c52, c53, c54, c55, c56, c57, c58, c59, c60, c61, c62, c63, c64, c65, c66, c67, c68, c69, c70, c71, c72, c73, c74, c75, c76, c77, c78, c79, c80, c81, c82, c83, c84, c85, c86, c87, c88, c89, c90, c91, c92, c93, c94, c95, c96, c97, c98, c99, c100, c101, c102, c103, c104, c105, c106, c107, c108, c109, c110, c111, c112, c113, c114, c115, c116, c117, c118, c119, c120, c121, c122, c123, c124, c125, c126, c127, u128, u129, u130, u131, u132, u133, u134, u135, u136, u137, u138, u139, u140, u141, u142, u143, u144, c145, c146, c147, c148, c149, c150, c151, c152, c153, c154, c155, c156, c157, c158, c159, c160, c161, c162, c163, c164, c165, c166, c167, c168, c169, c170, c171, c172, c173, c174, c175, c176, c177, c178, c179, c180, c181, c182, c183, c184, c185, c186, c187, c188, c189, c190, c191, c192, c193, c194, c195, c196, c197, c198, c199, c200, c201, c202, c203, c204, c205, c206, c207, c208, c209, c210, c211, c212, c213, c214, c215, c216, c217, c218, c219, c220, c221, c222, c223, c224, c225, c226, c227, c228, c229, c230], []⟩ wx) :
    readBytesCode.wp Try.prog (Exit.then K Q) ⟨#[c0, c1, c2, c3, c4, c5, .pointer (some ⟨b, 0, none⟩), c7, c8, c9, c10, c11, c12, c13, .pointer (some ⟨x, 0, none⟩), c15, .int .i64 kk, c17, c18, c19, c20, c21, c22, c23, c24, c25, c26, c27, c28, c29, c30, c31, c32, c33, c34, c35, c36, c37, c38, c39, c40, c41, c42, c43, c44, c45, c46, c47, c48, c49, c50, c51, c52, c53, c54, c55, c56, c57, c58, c59, c60, c61, c62, c63, c64, c65, c66, c67, c68, c69, c70, c71, c72, c73, c74, c75, c76, c77, c78, c79, c80, c81, c82, c83, c84, c85, c86, c87, c88, c89, c90, c91, c92, c93, c94, c95, c96, c97, c98, c99, c100, c101, c102, c103, c104, c105, c106, c107, c108, c109, c110, c111, c112, c113, c114, c115, c116, c117, c118, c119, c120, c121, c122, c123, c124, c125, c126, c127, c128, c129, c130, c131, c132, c133, c134, c135, c136, c137, c138, c139, c140, c141, c142, c143, c144, c145, c146, c147, c148, c149, c150, c151, c152, c153, c154, c155, c156, c157, c158, c159, c160, c161, c162, c163, c164, c165, c166, c167, c168, c169, c170, c171, c172, c173, c174, c175, c176, c177, c178, c179, c180, c181, c182, c183, c184, c185, c186, c187, c188, c189, c190, c191, c192, c193, c194, c195, c196, c197, c198, c199, c200, c201, c202, c203, c204, c205, c206, c207, c208, c209, c210, c211, c212, c213, c214, c215, c216, c217, c218, c219, c220, c221, c222, c223, c224, c225, c226, c227, c228, c229, c230], []⟩ wc := by
  have CA := hide cA
  have CB := hide cB
  have HK := hide hK
  have hbx : b ≠ x := T.kb.ne_ T.kx (by decide)
  have HBX := hide hbx
  have e1 := (T.kb.cell 0).trans rfl
  have e2 := (T.kb.cell 1).trans rfl
  have HT := hide T
  clear cA cB hK hbx T
  conv => arg 2; whnf
  go_wp2_with fail
  refine (CA.out _).mono ?_
  rintro e w1 ⟨rfl, hb1⟩
  have t1 := HT.out.below hb1 (Nat.le_refl _)
  have HT1 := hide t1
  have e3 := (t1.kx.cell 0).trans rfl
  have e4 := (t1.kx.cell 1).trans rfl
  have z1 := t1.kx.lt
  clear e1 e2 hb1 t1
  go_wp2_with fail
  refine (CB.out _).mono ?_
  rintro e w2 ⟨rfl, hb2⟩
  have t2 := (HT1.out.alloc (.cells (#[.string st', .bool bd'] : Array Value) 23)).below hb2 (Nat.le_refl _)
  have k1 : Blk w2 w1.heap.size 23 #[.string st', .bool bd'] := (Blk.new w1 23 #[.string st', .bool bd']).below hb2 (by simp)
  have HT2 := hide t2
  have h1 := (t2.kb.cell 0).trans rfl
  have h2 := (t2.kb.cell 1).trans rfl
  have h3 := (t2.kx.cell 0).trans rfl
  have h4 := (t2.kx.cell 1).trans rfl
  have f1 := t2.kb.frozen 0
  have f2 := t2.kb.frozen 1
  have f3 := t2.kx.frozen 0
  have f4 := t2.kx.frozen 1
  have g1 := (k1.cell 0).trans rfl
  have g2 := (k1.cell 1).trans rfl
  have z2 := t2.kx.lt
  have z3 := t2.kb.lt
  have z4 := k1.lt
  have n1 := k1.ne_ t2.kx (by decide)
  have n2 : b ≠ w1.heap.size := fun h => by have := HT1.out.kb.lt; omega
  have n3 : x ≠ w1.heap.size := fun h => by have := HT1.out.kx.lt; omega
  have hbx := HBX.out
  clear hb2 t2 k1 e3 e4 z1
  go_wp2_with fail
  refine HK.out _ _ _ _ _ _ _ _ _ _ _ _ _ _ _ _ _ _ _ _ _ _ ?_
  exact (((((HT2.out.split.b0 HBX.out _).b1 HBX.out _).x0 HBX.out _).x1 HBX.out _).join.alloc _)

end Go.Proofs.Ytjneagcomaljdaa
