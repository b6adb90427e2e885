/-
  Chapter 19: BeatPlays: a deed is read, its marks are taken over, walked through its text.
-/
import Derived.Test.YtonjpdidbgicgaaP1
import Derived.Test.YtonjpdidbgicgaaK2
import Derived.Deep.RegionHeld3
import Derived.Deep.CutBlock
/-! -/
namespace Go.Proofs.Ytonjpdidbgicgaa
open Go.RowKit
set_option linter.unusedVariables false

/-- What a deed is as cells: its kind, who, a number, a time, marks, near. -/
structure DeedAt (w : World) (ab ao i : Nat) (k who nn now : Int) (A : Option Addr) (mn mc : Nat) (ml : List Int) (nr : Bool) : Prop where
  c0 : w.cell? ⟨ab, ao + i * 6, none⟩ = some (.int .u8 k)
  c1 : w.cell? ⟨ab, ao + i * 6 + 1, none⟩ = some (.int .i64 who)
  c2 : w.cell? ⟨ab, ao + i * 6 + 2, none⟩ = some (.int .i64 nn)
  c3 : w.cell? ⟨ab, ao + i * 6 + 3, none⟩ = some (.int .u64 now)
  c4 : w.cell? ⟨ab, ao + i * 6 + 4, none⟩ = some (.slice A mn mc)
  c5 : w.cell? ⟨ab, ao + i * 6 + 5, none⟩ = some (.bool nr)
  bk : 0 ≤ k ∧ k ≤ 255
  bt : 0 ≤ now ∧ now ≤ 18446744073709551615
  rd : Reads w w.heap.size 1 A mn (ints ml)
  le : mn ≤ mc
  mx : mc ≤ 9223372036854775807

theorem reads_take {w : World} {B n m : Nat} {A : Option Addr} {l : List Int} (h : Reads w B 1 A n (ints l)) (hm : m ≤ n) : Reads w B 1 A m (ints (l.take m)) := by
  have hl : l.length = n := by have := h.1; simpa [ints] using this
  refine ⟨by simp [ints]; omega, fun h0 => ?_⟩
  obtain ⟨ad, e, hb, hc⟩ := h.2 (by omega)
  refine ⟨ad, e, hb, fun j u hu => hc j u ?_⟩
  simp only [ints, List.getElem?_map, List.getElem?_take, Option.map_eq_some_iff] at hu ⊢
  obtain ⟨a, ha, rfl⟩ := hu
  split at ha
  · exact ⟨a, ha, rfl⟩
  · cases ha

noncomputable def readPCode : Code := codeAt ((Try.f3.body).getD .skip) [1, 1, 1, 1, 1, 1, 1, 1, 0, 1, 0, 0, 1, 0, 0, 0]

set_option maxRecDepth 100000 in
set_option maxHeartbeats 4000000 in
theorem readP {c0 c1 c2 c3 c5 c6 c7 c8 c9 c10 c11 c12 c13 c14 c16 c17 c18 c19 c20 c21 c22 c23 c24 c25 c26 c27 c28 c29 c30 c31 c32 c33 c34 c35 c36 c37 c38 c39 c40 c41 c42 c43 c44 c45 c46 c47 c48 c49 c50 c51 c52 c53 c54 c55 c56 c57 c58 c59 c60 c61 c62 c63 c64 c65 c66 c67 c68 c69 c70 c71 c72 c73 c74 c75 c76 c77 c78 c79 c80 c81 c82 c83 c84 c85 c86 c87 c88 c89 c90 c91 c92 c93 c94 c95 c96 c97 c98 c99 c100 c101 c102 c103 c104 c105 c106 c107 c108 c109 c110 c111 c112 c113 c114 c115 c116 c117 c118 c119 c120 c121 c122 c123 c124 c125 c126 c127 c128 c129 c130 c131 c132 c133 c134 c135 c136 c137 c138 c139 c140 c141 c142 c143 c144 c145 c146 c147 c148 c149 c150 c151 c152 c153 c154 c155 c156 c157 c158 c159 c160 c161 c162 c163 c164 c165 c166 c167 c168 c169 c170 c171 c172 c173 c174 c175 c176 c177 c178 c179 c180 c181 c182 c183 c184 c185 c186 c187 c188 c189 c190 c191 c192 c193 c194 c195 c196 c197 c198 c199 c200 c201 c202 c203 c204 c205 c206 c207 c208 c209 c210 c211 c212 c213 c214 c215 c216 c217 c218 c219 c220 c221 c222 c223 c224 c225 c226 : Value} (w wc : World) (b x i len c ab ao mn mc : Nat) (MA : Option Addr) (k who nn now : Int) (ml : List Int) (nr : Bool) (s : BSt)
    (hi : i < len) (hl : len ≤ 9223372036854775807) (hab : ab < w.heap.size) (hd : DeedAt w ab ao i k who nn now MA mn mc ml nr) (T2 : Two w wc b x s) (K : Act → World → Prop) (Q : Exit → Act → World → Prop)
    (hK : ∀ (u80 u81 u82 u83 : Value) (wx : World), wx = wc.alloc (.cells (#[.int .u8 k, .int .i64 who, .int .i64 nn, .int .u64 now, .slice MA mn mc, .bool nr] : Array Value) 34) → K ⟨#[c0, c1, c2, c3, .slice (some ⟨ab, ao, none⟩) len c, c5, c6, c7, c8, c9, c10, c11, c12, c13, c14, .int .i64 (i : Int), .pointer (some ⟨wc.heap.size, 0, none⟩), c17, c18, c19, c20, c21, c22, c23, c24, c25, c26, c27, c28, c29, c30, c31, c32, c33, c34, c35, c36, c37, c38, c39, c40, c41, c42, c43, c44, c45, c46, c47, c48, c49, c50, c51, c52, c53, c54, c55, c56, c57, c58, c59, c60, c61, c62, c63, c64, c65, c66, c67, c68, c69, c70, c71, c72, c73, c74, c75, c76, c77, c78, c79, u80, u81, u82, u83, c84, c85, c86, c87, c88, c89, c90, c91, c92, c93, c94, c95, c96, c97, c98, c99, c100, c101, c102, c103, c104, c105, c106, c107, c108, c109, c110, c111, c112, c113, c114, c115, c116, c117, c118, c119, c120, c121, c122, c123, c124, c125, c126, c127, c128, c129, c130, c131, c132, c133, c134, c135, c136, c137, c138, c139, c140, c141, c142, c143, c144, c145, c146, c147, c148, c149, c150, c151, c152, c153, c154, c155, c156, c157, c158, c159, c160, c161, c162, c163, c164, c165, c166, c167, c168, c169, c170, c171, c172, c173, c174, c175, c176, c177, c178, c179, c180, c181, c182, c183, c184, c185, c186, c187, c188, c189, c190, c191, c192, c193, c194, c195, c196, c197, c198, c199, c200, c201, c202, c203, c204, c205, c206, c207, c208, c209, c210, c211, c212, c213, c214, c215, c216, c217, c218, c219, c220, c221, c222, c223, c224, c225, c226], []⟩ wx) :
    readPCode.wp Try.prog (Exit.then K Q) ⟨#[c0, c1, c2, c3, .slice (some ⟨ab, ao, none⟩) len c, c5, c6, c7, c8, c9, c10, c11, c12, c13, c14, .int .i64 (i : Int), c16, c17, c18, c19, c20, c21, c22, c23, c24, c25, c26, c27, c28, c29, c30, c31, c32, c33, c34, c35, c36, c37, c38, c39, c40, c41, c42, c43, c44, c45, c46, c47, c48, c49, c50, c51, c52, c53, c54, c55, c56, c57, c58, c59, c60, c61, c62, c63, c64, c65, c66, c67, c68, c69, c70, c71, c72, c73, c74, c75, c76, c77, c78, c79, c80, c81, c82, c83, c84, c85, c86, c87, c88, c89, c90, c91, c92, c93, c94, c95, c96, c97, c98, c99, c100, c101, c102, c103, c104, c105, c106, c107, c108, c109, c110, c111, c112, c113, c114, c115, c116, c117, c118, c119, c120, c121, c122, c123, c124, c125, c126, c127, c128, c129, c130, c131, c132, c133, c134, c135, c136, c137, c138, c139, c140, c141, c142, c143, c144, c145, c146, c147, c148, c149, c150, c151, c152, c153, c154, c155, c156, c157, c158, c159, c160, c161, c162, c163, c164, c165, c166, c167, c168, c169, c170, c171, c172, c173, c174, c175, c176, c177, c178, c179, c180, c181, c182, c183, c184, c185, c186, c187, c188, c189, c190, c191, c192, c193, c194, c195, c196, c197, c198, c199, c200, c201, c202, c203, c204, c205, c206, c207, c208, c209, c210, c211, c212, c213, c214, c215, c216, c217, c218, c219, c220, c221, c222, c223, c224, c225, c226], []⟩ wc := by
  have hb := T2.bel
  have d0 := (hb.cell (p := ⟨ab, ao + i * 6, none⟩) hab).trans hd.c0
  have d1 := (hb.cell (p := ⟨ab, ao + i * 6 + 1, none⟩) hab).trans hd.c1
  have d2 := (hb.cell (p := ⟨ab, ao + i * 6 + 2, none⟩) hab).trans hd.c2
  have d3 := (hb.cell (p := ⟨ab, ao + i * 6 + 3, none⟩) hab).trans hd.c3
  have d4 := (hb.cell (p := ⟨ab, ao + i * 6 + 4, none⟩) hab).trans hd.c4
  have d5 := (hb.cell (p := ⟨ab, ao + i * 6 + 5, none⟩) hab).trans hd.c5
  have j1 : (i : Int) < len := by omega
  have HK := hide hK
  clear hK hb hd T2
  conv => arg 2; whnf
  go_wp2_with fail
  exact HK.out _ _ _ _ _ rfl

noncomputable def overPCode : Code := codeAt ((Try.f3.body).getD .skip) [1, 1, 1, 1, 1, 1, 1, 1, 0, 1, 0, 0, 1, 0, 0, 1, 0]

set_option maxRecDepth 100000 in
set_option maxHeartbeats 4000000 in
theorem overP {c0 c1 c2 c3 c4 c5 c6 c7 c8 c9 c10 c11 c12 c13 c14 c15 c17 c18 c19 c20 c21 c22 c23 c24 c25 c26 c27 c28 c29 c30 c31 c32 c33 c34 c35 c36 c37 c38 c39 c40 c41 c42 c43 c44 c45 c46 c47 c48 c49 c50 c51 c52 c53 c54 c55 c56 c57 c58 c59 c60 c61 c62 c63 c64 c65 c66 c67 c68 c69 c70 c71 c72 c73 c74 c75 c76 c77 c78 c79 c80 c81 c82 c83 c84 c85 c86 c87 c88 c89 c90 c91 c92 c93 c94 c95 c96 c97 c98 c99 c100 c101 c102 c103 c104 c105 c106 c107 c108 c109 c110 c111 c112 c113 c114 c115 c116 c117 c118 c119 c120 c121 c122 c123 c124 c125 c126 c127 c128 c129 c130 c131 c132 c133 c134 c135 c136 c137 c138 c139 c140 c141 c142 c143 c144 c145 c146 c147 c148 c149 c150 c151 c152 c153 c154 c155 c156 c157 c158 c159 c160 c161 c162 c163 c164 c165 c166 c167 c168 c169 c170 c171 c172 c173 c174 c175 c176 c177 c178 c179 c180 c181 c182 c183 c184 c185 c186 c187 c188 c189 c190 c191 c192 c193 c194 c195 c196 c197 c198 c199 c200 c201 c202 c203 c204 c205 c206 c207 c208 c209 c210 c211 c212 c213 c214 c215 c216 c217 c218 c219 c220 c221 c222 c223 c224 c225 c226 : Value} (w wc : World) (b x ub mn mc : Nat) (MA : Option Addr) (k who nn now : Int) (ml : List Int) (nr : Bool) (s : BSt)
    (hrd : Reads w w.heap.size 1 MA mn (ints ml)) (le : mn ≤ mc) (mx : mc ≤ 9223372036854775807)
    (NB : Blk wc ub 34 #[.int .u8 k, .int .i64 who, .int .i64 nn, .int .u64 now, .slice MA mn mc, .bool nr]) (T2 : Two w wc b x s) (K : Act → World → Prop) (Q : Exit → Act → World → Prop)
    (hK : ∀ (u84 u85 u86 u87 u88 u89 u90 u91 : Value) (wx : World), ∀ (mm : Nat) (vA : Option Addr) (vc : Nat), mm ≤ 9 → wx.ownsRow w.heap.size 3 1 (.slice vA mm vc) mm (ints (ml.take mm)) →
      Blk wx ub 34 #[.int .u8 k, .int .i64 who, .int .i64 nn, .int .u64 now, .slice MA mn mc, .bool nr] → Two w wx b x s → K ⟨#[c0, c1, c2, c3, c4, c5, c6, c7, c8, c9, c10, c11, c12, c13, c14, c15, .pointer (some ⟨ub, 0, none⟩), .slice vA mm vc, c18, c19, c20, c21, c22, c23, c24, c25, c26, c27, c28, c29, c30, c31, c32, c33, c34, c35, c36, c37, c38, c39, c40, c41, c42, c43, c44, c45, c46, c47, c48, c49, c50, c51, c52, c53, c54, c55, c56, c57, c58, c59, c60, c61, c62, c63, c64, c65, c66, c67, c68, c69, c70, c71, c72, c73, c74, c75, c76, c77, c78, c79, c80, c81, c82, c83, u84, u85, u86, u87, u88, u89, u90, u91, c92, c93, c94, c95, c96, c97, c98, c99, c100, c101, c102, c103, c104, c105, c106, c107, c108, c109, c110, c111, c112, c113, c114, c115, c116, c117, c118, c119, c120, c121, c122, c123, c124, c125, c126, c127, c128, c129, c130, c131, c132, c133, c134, c135, c136, c137, c138, c139, c140, c141, c142, c143, c144, c145, c146, c147, c148, c149, c150, c151, c152, c153, c154, c155, c156, c157, c158, c159, c160, c161, c162, c163, c164, c165, c166, c167, c168, c169, c170, c171, c172, c173, c174, c175, c176, c177, c178, c179, c180, c181, c182, c183, c184, c185, c186, c187, c188, c189, c190, c191, c192, c193, c194, c195, c196, c197, c198, c199, c200, c201, c202, c203, c204, c205, c206, c207, c208, c209, c210, c211, c212, c213, c214, c215, c216, c217, c218, c219, c220, c221, c222, c223, c224, c225, c226], []⟩ wx) :
    overPCode.wp Try.prog (Exit.then K Q) ⟨#[c0, c1, c2, c3, c4, c5, c6, c7, c8, c9, c10, c11, c12, c13, c14, c15, .pointer (some ⟨ub, 0, none⟩), c17, c18, c19, c20, c21, c22, c23, c24, c25, c26, c27, c28, c29, c30, c31, c32, c33, c34, c35, c36, c37, c38, c39, c40, c41, c42, c43, c44, c45, c46, c47, c48, c49, c50, c51, c52, c53, c54, c55, c56, c57, c58, c59, c60, c61, c62, c63, c64, c65, c66, c67, c68, c69, c70, c71, c72, c73, c74, c75, c76, c77, c78, c79, c80, c81, c82, c83, c84, c85, c86, c87, c88, c89, c90, c91, c92, c93, c94, c95, c96, c97, c98, c99, c100, c101, c102, c103, c104, c105, c106, c107, c108, c109, c110, c111, c112, c113, c114, c115, c116, c117, c118, c119, c120, c121, c122, c123, c124, c125, c126, c127, c128, c129, c130, c131, c132, c133, c134, c135, c136, c137, c138, c139, c140, c141, c142, c143, c144, c145, c146, c147, c148, c149, c150, c151, c152, c153, c154, c155, c156, c157, c158, c159, c160, c161, c162, c163, c164, c165, c166, c167, c168, c169, c170, c171, c172, c173, c174, c175, c176, c177, c178, c179, c180, c181, c182, c183, c184, c185, c186, c187, c188, c189, c190, c191, c192, c193, c194, c195, c196, c197, c198, c199, c200, c201, c202, c203, c204, c205, c206, c207, c208, c209, c210, c211, c212, c213, c214, c215, c216, c217, c218, c219, c220, c221, c222, c223, c224, c225, c226], []⟩ wc := by
  obtain ⟨i0, hi0, hz0, hz1, hz2⟩ := info_parts int_info
  have RD := hide (hrd.below T2.bel)
  have e4 := (NB.cell 4).trans rfl
  have HB0 := hide T2.bel.size
  have NBH := hide NB
  have T2H := hide T2
  have HK := hide hK
  clear hK hrd NB T2
  by_cases q : mn ≤ 9
  · have q1 : (mn : Int) ≤ 9 := by omega
    clear q
    conv => arg 2; whnf
    go_wp2_with (at_builtin; go_must (refine wpList_append_any _ rfl (.const (.slice none 0 0)) (.tmp 90) _ rfl w.heap.size 3 i0 _ 1 8 Try.underlying32 hi0 hz0 hz1 hz2 rfl (by omega) (.slice none 0 0) 0 [] rfl (World.ownsRow_nil _ _ _ _) w.heap.size MA mn _ (ints (ml.take mn)) rfl (reads_take RD.out (by omega)) (one_ints _) (by simp only [maxLen]; omega) (by omega) HB0.out ?_); intro v1 w4 hown4 hgr4 hat4)
    have hgb4 : Below wc.heap.size wc w4 := grown_none_below hgr4
    have nb4 := hide (NBH.out.below hgb4 NBH.out.lt)
    have t4 := hide (T2H.out.below hgb4)
    have ow4 : w4.ownsRow w.heap.size 3 1 v1 mn (ints (ml.take mn)) := by simpa using hown4
    obtain ⟨vA, vc, rfl⟩ : ∃ A c, v1 = .slice A mn c := by
      rcases hown4.2 with ⟨rfl, h0⟩ | ⟨gg, cap, cur, rfl, _⟩
      · exact ⟨_, _, by rw [show mn = 0 by omega]⟩
      · exact ⟨_, _, by rw [Nat.zero_add]⟩
    have OW4 := hide ow4
    clear hown4 hgr4 hat4 hgb4 ow4
    go_wp2_with fail
    exact HK.out _ _ _ _ _ _ _ _ _ mn vA vc (by omega) OW4.out nb4.out t4.out
  · have q1 : (9 : Int) < mn := by omega
    clear q
    conv => arg 2; whnf
    go_wp2_with (at_builtin; go_must (refine wpList_append_any _ rfl (.const (.slice none 0 0)) (.tmp 90) _ rfl w.heap.size 3 i0 _ 1 8 Try.underlying32 hi0 hz0 hz1 hz2 rfl (by omega) (.slice none 0 0) 0 [] rfl (World.ownsRow_nil _ _ _ _) w.heap.size MA 9 _ (ints (ml.take 9)) rfl (reads_take RD.out (by omega)) (one_ints _) (by simp only [maxLen]; omega) (by omega) HB0.out ?_); intro v1 w4 hown4 hgr4 hat4)
    have hgb4 : Below wc.heap.size wc w4 := grown_none_below hgr4
    have nb4 := hide (NBH.out.below hgb4 NBH.out.lt)
    have t4 := hide (T2H.out.below hgb4)
    have ow4 : w4.ownsRow w.heap.size 3 1 v1 9 (ints (ml.take 9)) := by simpa using hown4
    obtain ⟨vA, vc, rfl⟩ : ∃ A c, v1 = .slice A 9 c := by
      rcases hown4.2 with ⟨rfl, h0⟩ | ⟨gg, cap, cur, rfl, _⟩
      · exact ⟨_, _, by rw [show 9 = 0 by omega]⟩
      · exact ⟨_, _, by rw [Nat.zero_add]⟩
    have OW4 := hide ow4
    clear hown4 hgr4 hat4 hgb4 ow4
    go_wp2_with fail
    exact HK.out _ _ _ _ _ _ _ _ _ 9 vA vc (by omega) OW4.out nb4.out t4.out


end Go.Proofs.Ytonjpdidbgicgaa
