/-
  Chapter 19: BeatPlays: one round, joined out of its pieces.
-/
import Derived.Test.YtonjpdidbgicgaaP1
import Derived.Test.YtonjpdidbgicgaaP3
import Derived.Test.YtonjpdidbgicgaaP4
import Derived.Test.YtonjpdidbgicgaaP5
import Derived.Test.YtonjpdidbgicgaaP6
import Derived.Test.YtonjpdidbgicgaaK2
import Derived.Deep.RegionHeld3
import Derived.Deep.CutBlock
namespace Go.Proofs.Ytonjpdidbgicgaa
open Go.RowKit
set_option linter.unusedVariables false

noncomputable def roundPCode : Code := codeAt ((Try.f3.body).getD .skip) [1, 1, 1, 1, 1, 1, 1, 1, 0, 1, 0, 0, 1, 0, 0]

set_option maxRecDepth 100000 in
set_option maxHeartbeats 4000000 in
theorem roundP {c0 c1 c2 c3 c5 c6 c7 c8 c9 c10 c11 c13 c16 c17 c18 c19 c20 c21 c22 c23 c24 c25 c26 c27 c28 c29 c30 c31 c32 c33 c34 c35 c36 c37 c38 c39 c40 c41 c42 c43 c44 c45 c46 c47 c48 c49 c50 c51 c52 c53 c54 c55 c56 c57 c58 c59 c60 c61 c62 c63 c64 c65 c66 c67 c68 c69 c70 c71 c72 c73 c74 c75 c76 c77 c78 c79 c80 c81 c82 c83 c84 c85 c86 c87 c88 c89 c90 c91 c92 c93 c94 c95 c96 c97 c98 c99 c100 c101 c102 c103 c104 c105 c106 c107 c108 c109 c110 c111 c112 c113 c114 c115 c116 c117 c118 c119 c120 c121 c122 c123 c124 c125 c126 c127 c128 c129 c130 c131 c132 c133 c134 c135 c136 c137 c138 c139 c140 c141 c142 c143 c144 c145 c146 c147 c148 c149 c150 c151 c152 c153 c154 c155 c156 c157 c158 c159 c160 c161 c162 c163 c164 c165 c166 c167 c168 c169 c170 c171 c172 c173 c174 c175 c176 c177 c178 c179 c180 c181 c182 c183 c184 c185 c186 c187 c188 c189 c190 c191 c192 c193 c194 c195 c196 c197 c198 c199 c200 c201 c202 c203 c204 c205 c206 c207 c208 c209 c210 c211 c212 c213 c214 c215 c216 c217 c218 c219 c220 c221 c222 c223 c224 c225 c226 : Value} (w wc : World) (b x i len c ab ao mn mc : Nat) (MA : Option Addr) (k who nn now : Int) (ml : List Int) (nr : Bool) (s : BSt)
    (hi : i < len) (hi40 : i < 40) (hl : len ≤ 9223372036854775807) (hab : ab < w.heap.size) (hd : DeedAt w ab ao i k who nn now MA mn mc ml nr) (T2 : Two w wc b x s) (K : Act → World → Prop) (Q : Exit → Act → World → Prop)
    (hK : ∀ (u10 u16 u17 u18 u19 u20 u21 u22 u80 u81 u82 u83 u84 u85 u86 u87 u88 u89 u90 u91 u92 u93 u94 u95 u96 u97 u98 u99 u100 u101 u102 u103 u104 u105 u106 u107 u108 u109 u110 u111 u112 u113 u114 u115 u116 u117 u118 u119 u120 u121 u122 u123 u124 u125 u126 u127 u128 u129 u130 u131 u132 u133 u134 u135 u136 u137 u138 u139 u140 u141 u142 u143 u144 u145 u146 u147 u148 u149 u150 u151 u152 u153 u154 u155 u156 u157 u158 u159 u160 u161 u162 u163 u164 u165 u166 u167 u168 u169 u170 u171 u172 u173 u174 u175 u176 u177 u178 u179 u180 u181 u182 u183 u184 u185 u186 u187 u188 u189 u190 u191 u192 u193 u194 u195 u196 u197 u198 u199 u200 u201 u202 u203 u204 u205 u206 u207 u208 u209 u210 u211 u212 u213 u214 u215 u216 u217 u218 u219 u220 u221 u222 u223 u224 u225 : Value) (wx : World), ∀ s' : BSt, Two w wx b x s' → K ⟨#[c0, c1, c2, c3, .slice (some ⟨ab, ao, none⟩) len c, c5, c6, c7, c8, c9, u10, c11, .pointer (some ⟨b, 0, none⟩), c13, .pointer (some ⟨x, 0, none⟩), .int .i64 (i : Int), u16, u17, u18, u19, u20, u21, u22, c23, c24, c25, c26, c27, c28, c29, c30, c31, c32, c33, c34, c35, c36, c37, c38, c39, c40, c41, c42, c43, c44, c45, c46, c47, c48, c49, c50, c51, c52, c53, c54, c55, c56, c57, c58, c59, c60, c61, c62, c63, c64, c65, c66, c67, c68, c69, c70, c71, c72, c73, c74, c75, c76, c77, c78, c79, u80, u81, u82, u83, u84, u85, u86, u87, u88, u89, u90, u91, u92, u93, u94, u95, u96, u97, u98, u99, u100, u101, u102, u103, u104, u105, u106, u107, u108, u109, u110, u111, u112, u113, u114, u115, u116, u117, u118, u119, u120, u121, u122, u123, u124, u125, u126, u127, u128, u129, u130, u131, u132, u133, u134, u135, u136, u137, u138, u139, u140, u141, u142, u143, u144, u145, u146, u147, u148, u149, u150, u151, u152, u153, u154, u155, u156, u157, u158, u159, u160, u161, u162, u163, u164, u165, u166, u167, u168, u169, u170, u171, u172, u173, u174, u175, u176, u177, u178, u179, u180, u181, u182, u183, u184, u185, u186, u187, u188, u189, u190, u191, u192, u193, u194, u195, u196, u197, u198, u199, u200, u201, u202, u203, u204, u205, u206, u207, u208, u209, u210, u211, u212, u213, u214, u215, u216, u217, u218, u219, u220, u221, u222, u223, u224, u225, c226], []⟩ wx) :
    roundPCode.wp Try.prog (Exit.then K Q) ⟨#[c0, c1, c2, c3, .slice (some ⟨ab, ao, none⟩) len c, c5, c6, c7, c8, c9, c10, c11, .pointer (some ⟨b, 0, none⟩), c13, .pointer (some ⟨x, 0, none⟩), .int .i64 (i : Int), c16, c17, c18, c19, c20, c21, c22, c23, c24, c25, c26, c27, c28, c29, c30, c31, c32, c33, c34, c35, c36, c37, c38, c39, c40, c41, c42, c43, c44, c45, c46, c47, c48, c49, c50, c51, c52, c53, c54, c55, c56, c57, c58, c59, c60, c61, c62, c63, c64, c65, c66, c67, c68, c69, c70, c71, c72, c73, c74, c75, c76, c77, c78, c79, c80, c81, c82, c83, c84, c85, c86, c87, c88, c89, c90, c91, c92, c93, c94, c95, c96, c97, c98, c99, c100, c101, c102, c103, c104, c105, c106, c107, c108, c109, c110, c111, c112, c113, c114, c115, c116, c117, c118, c119, c120, c121, c122, c123, c124, c125, c126, c127, c128, c129, c130, c131, c132, c133, c134, c135, c136, c137, c138, c139, c140, c141, c142, c143, c144, c145, c146, c147, c148, c149, c150, c151, c152, c153, c154, c155, c156, c157, c158, c159, c160, c161, c162, c163, c164, c165, c166, c167, c168, c169, c170, c171, c172, c173, c174, c175, c176, c177, c178, c179, c180, c181, c182, c183, c184, c185, c186, c187, c188, c189, c190, c191, c192, c193, c194, c195, c196, c197, c198, c199, c200, c201, c202, c203, c204, c205, c206, c207, c208, c209, c210, c211, c212, c213, c214, c215, c216, c217, c218, c219, c220, c221, c222, c223, c224, c225, c226], []⟩ wc := by
  have HK := hide hK
  have T2H := hide T2
  have HD := hide hd
  clear hK hd T2
  conv => arg 2; whnf
  refine wp_seq_k fun K1 hK1 => ?_
  refine readP w wc b x i len c ab ao mn mc MA k who nn now ml nr s hi hl hab HD.out T2H.out K1 _ ?_
  intro u80 u81 u82 u83 w1 hw1
  refine hK1 _ _ ?_
  have NB1 : Blk w1 wc.heap.size 34 #[.int .u8 k, .int .i64 who, .int .i64 nn, .int .u64 now, .slice MA mn mc, .bool nr] := by rw [hw1]; exact Blk.new _ _ _
  have T1 : Two w w1 b x s := by rw [hw1]; exact T2H.out.alloc _
  have hub : w.heap.size ≤ wc.heap.size := T2H.out.bel.size
  clear hK1 K1 hw1
  refine wp_seq_k fun K1 hK1 => ?_
  refine overP w w1 b x wc.heap.size mn mc MA k who nn now ml nr s HD.out.rd HD.out.le HD.out.mx NB1 T1 K1 _ ?_
  intro u84 u85 u86 u87 u88 u89 u90 u91 w2 mm vA vc m9 ow2 nb2 t2
  refine hK1 _ _ ?_
  have OW := hide ow2
  have NB := hide nb2
  have T3 := hide t2
  have e5 := (nb2.cell 5).trans rfl
  clear hK1 K1 NB1 T1 ow2 nb2 t2
  go_upto_if 93 with fail
  rename_i K1 hK1
  have step : ∀ (u18 u94 u95 u96 u97 u98 u99 u100 u101 u102 u103 u104 u105 u106 u107 u108 u109 u110 u111 u112 u113 u114 u115 u116 u117 u118 u119 u120 u121 u122 u123 u124 u125 u126 u127 u128 : Value) (wx : World) (who' nn' now' : Int) (ml' : List Int), (0 ≤ now' ∧ now' ≤ 18446744073709551615) →
      wx.ownsRow w.heap.size 3 1 (.slice vA mm vc) mm (ints ml') → Blk wx wc.heap.size 34 #[.int .u8 k, .int .i64 who', .int .i64 nn', .int .u64 now', .slice MA mn mc, .bool nr] → Two w wx b x s → K1 ⟨#[c0, c1, c2, c3, .slice (some ⟨ab, ao, none⟩) len c, c5, c6, c7, c8, c9, c10, c11, .pointer (some ⟨b, 0, none⟩), c13, .pointer (some ⟨x, 0, none⟩), .int .i64 (i : Int), .pointer (some ⟨wc.heap.size, 0, none⟩), .slice vA mm vc, u18, c19, c20, c21, c22, c23, c24, c25, c26, c27, c28, c29, c30, c31, c32, c33, c34, c35, c36, c37, c38, c39, c40, c41, c42, c43, c44, c45, c46, c47, c48, c49, c50, c51, c52, c53, c54, c55, c56, c57, c58, c59, c60, c61, c62, c63, c64, c65, c66, c67, c68, c69, c70, c71, c72, c73, c74, c75, c76, c77, c78, c79, u80, u81, u82, u83, u84, u85, u86, u87, u88, u89, u90, u91, .pointer (some ⟨wc.heap.size, 5, none⟩), .bool nr, u94, u95, u96, u97, u98, u99, u100, u101, u102, u103, u104, u105, u106, u107, u108, u109, u110, u111, u112, u113, u114, u115, u116, u117, u118, u119, u120, u121, u122, u123, u124, u125, u126, u127, u128, c129, c130, c131, c132, c133, c134, c135, c136, c137, c138, c139, c140, c141, c142, c143, c144, c145, c146, c147, c148, c149, c150, c151, c152, c153, c154, c155, c156, c157, c158, c159, c160, c161, c162, c163, c164, c165, c166, c167, c168, c169, c170, c171, c172, c173, c174, c175, c176, c177, c178, c179, c180, c181, c182, c183, c184, c185, c186, c187, c188, c189, c190, c191, c192, c193, c194, c195, c196, c197, c198, c199, c200, c201, c202, c203, c204, c205, c206, c207, c208, c209, c210, c211, c212, c213, c214, c215, c216, c217, c218, c219, c220, c221, c222, c223, c224, c225, c226], []⟩ wx := by
    intro u18 u94 u95 u96 u97 u98 u99 u100 u101 u102 u103 u104 u105 u106 u107 u108 u109 u110 u111 u112 u113 u114 u115 u116 u117 u118 u119 u120 u121 u122 u123 u124 u125 u126 u127 u128 wx who' nn' now' ml' bt' ow' nb' t'
    refine hK1 _ _ ?_
    have OW' := hide ow'
    have NB' := hide nb'
    have T' := hide t'
    have e0 := (nb'.cell 0).trans rfl
    have bk := HD.out.bk
    clear ow' nb' t' OW NB T3 hK1 e5
    go_upto_block 4 with fail
    rename_i K2 hK2
    have fin : ∀ (u132 u133 u134 u135 u136 u137 u138 u139 u140 u141 u142 u143 u144 u145 u146 u147 u148 u149 u150 u151 u152 u153 u154 u155 u156 u157 u158 u159 u160 u161 u162 u163 u164 u165 u166 u167 u168 u169 u170 u171 : Value) (wx : World) (s' : BSt), Blk wx wc.heap.size 34 #[.int .u8 k, .int .i64 who', .int .i64 nn', .int .u64 now', .slice MA mn mc, .bool nr] → Two w wx b x s' → K2 ⟨#[c0, c1, c2, c3, .slice (some ⟨ab, ao, none⟩) len c, c5, c6, c7, c8, c9, c10, c11, .pointer (some ⟨b, 0, none⟩), c13, .pointer (some ⟨x, 0, none⟩), .int .i64 (i : Int), .pointer (some ⟨wc.heap.size, 0, none⟩), .slice vA mm vc, u18, .bool true, c20, c21, c22, c23, c24, c25, c26, c27, c28, c29, c30, c31, c32, c33, c34, c35, c36, c37, c38, c39, c40, c41, c42, c43, c44, c45, c46, c47, c48, c49, c50, c51, c52, c53, c54, c55, c56, c57, c58, c59, c60, c61, c62, c63, c64, c65, c66, c67, c68, c69, c70, c71, c72, c73, c74, c75, c76, c77, c78, c79, u80, u81, u82, u83, u84, u85, u86, u87, u88, u89, u90, u91, .pointer (some ⟨wc.heap.size, 5, none⟩), .bool nr, u94, u95, u96, u97, u98, u99, u100, u101, u102, u103, u104, u105, u106, u107, u108, u109, u110, u111, u112, u113, u114, u115, u116, u117, u118, u119, u120, u121, u122, u123, u124, u125, u126, u127, u128, .pointer (some ⟨wc.heap.size, 0, none⟩), .int .u8 k, .int .u8 (k % 4), u132, u133, u134, u135, u136, u137, u138, u139, u140, u141, u142, u143, u144, u145, u146, u147, u148, u149, u150, u151, u152, u153, u154, u155, u156, u157, u158, u159, u160, u161, u162, u163, u164, u165, u166, u167, u168, u169, u170, u171, c172, c173, c174, c175, c176, c177, c178, c179, c180, c181, c182, c183, c184, c185, c186, c187, c188, c189, c190, c191, c192, c193, c194, c195, c196, c197, c198, c199, c200, c201, c202, c203, c204, c205, c206, c207, c208, c209, c210, c211, c212, c213, c214, c215, c216, c217, c218, c219, c220, c221, c222, c223, c224, c225, c226], []⟩ wx := by
      intro u132 u133 u134 u135 u136 u137 u138 u139 u140 u141 u142 u143 u144 u145 u146 u147 u148 u149 u150 u151 u152 u153 u154 u155 u156 u157 u158 u159 u160 u161 u162 u163 u164 u165 u166 u167 u168 u169 u170 u171 wy s' nb' t'
      refine hK2 _ _ ?_
      clear hK2 e0
      refine tailP w wy b x wc.heap.size mn mc MA k who' nn' now' nr s' bt' nb' t' K _ ?_
      intro u10 u20 u21 u22 u172 u173 u174 u175 u176 u177 u178 u179 u180 u181 u182 u183 u184 u185 u186 u187 u188 u189 u190 u191 u192 u193 u194 u195 u196 u197 u198 u199 u200 u201 u202 u203 u204 u205 u206 u207 u208 u209 u210 u211 u212 u213 u214 u215 u216 u217 u218 u219 u220 u221 u222 u223 u224 u225 wz tz
      exact HK.out _ _ _ _ _ _ _ _ _ _ _ _ _ _ _ _ _ _ _ _ _ _ _ _ _ _ _ _ _ _ _ _ _ _ _ _ _ _ _ _ _ _ _ _ _ _ _ _ _ _ _ _ _ _ _ _ _ _ _ _ _ _ _ _ _ _ _ _ _ _ _ _ _ _ _ _ _ _ _ _ _ _ _ _ _ _ _ _ _ _ _ _ _ _ _ _ _ _ _ _ _ _ _ _ _ _ _ _ _ _ _ _ _ _ _ _ _ _ _ _ _ _ _ _ _ _ _ _ _ _ _ _ _ _ _ _ _ _ _ _ _ _ _ _ _ _ _ _ _ _ _ _ _ _ wz s' tz
    have hk4 : k % 4 = 0 ∨ k % 4 = 1 ∨ k % 4 = 2 ∨ k % 4 = 3 := by omega
    clear hK2
    rcases hk4 with h4 | h4 | h4 | h4
    · rw [h4] at fin ⊢
      exact heardP w wx b x wc.heap.size mm mn mc vc vA MA k who' nn' now' ml' nr s m9 bt' OW'.out NB'.out T'.out K2 _ fin
    · rw [h4] at fin ⊢
      exact heardP1 w wx b x wc.heap.size mm mn mc vc vA MA k who' nn' now' ml' nr s m9 bt' OW'.out NB'.out T'.out K2 _ fin
    · rw [h4] at fin ⊢
      exact markP w wx b x wc.heap.size mm mn mc vc vA MA k who' nn' now' ml' nr s m9 bt' OW'.out NB'.out T'.out K2 _ fin
    · rw [h4] at fin ⊢
      exact takeP w wx b x wc.heap.size mm mn mc vc vA MA k who' nn' now' ml' nr s m9 bt' OW'.out NB'.out T'.out K2 _ fin
  cases nr with
  | false =>
    refine wp_cond_false rfl (wp_skip ?_)
    exact step _ _ _ _ _ _ _ _ _ _ _ _ _ _ _ _ _ _ _ _ _ _ _ _ _ _ _ _ _ _ _ _ _ _ _ _ w2 who nn now _ HD.out.bt OW.out NB.out T3.out
  | true =>
    refine nearP w w2 b x wc.heap.size i mm mn mc vc vA MA k who nn now _ s hi40 m9 HD.out.bt OW.out NB.out T3.out hub K1 _ ?_
    intro u18 u94 u95 u96 u97 u98 u99 u100 u101 u102 u103 u104 u105 u106 u107 u108 u109 u110 u111 u112 u113 u114 u115 u116 u117 u118 u119 u120 u121 u122 u123 u124 u125 u126 u127 u128 wx who' nn' now' ml' _ _ bt' ow' nb' t'
    exact step u18 u94 u95 u96 u97 u98 u99 u100 u101 u102 u103 u104 u105 u106 u107 u108 u109 u110 u111 u112 u113 u114 u115 u116 u117 u118 u119 u120 u121 u122 u123 u124 u125 u126 u127 u128 wx who' nn' now' ml' bt' ow' nb' t'


end Go.Proofs.Ytonjpdidbgicgaa
