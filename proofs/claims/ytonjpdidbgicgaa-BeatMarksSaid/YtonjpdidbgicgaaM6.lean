/-
  Chapter 19: BeatMarks: a round; the law.
-/
import Derived.Test.YtonjpdidbgicgaaM5
namespace Go.Proofs.Ytonjpdidbgicgaa
open Go.RowKit
set_option linter.unusedVariables false

def Rows8 (w : World) (A : Option Addr) (len : Nat) : Prop :=
  ∀ i, i < len → ∃ ab ao R L C, ∃ z : Nat → Int, A = some ⟨ab, ao, none⟩ ∧ ab < w.heap.size ∧ w.cell? ⟨ab, ao + i, none⟩ = some (.slice R L C) ∧ L ≤ 9223372036854775807 ∧
    ∀ k, k < L → ∃ rb ro, R = some ⟨rb, ro, none⟩ ∧ rb < w.heap.size ∧ w.cell? ⟨rb, ro + k, none⟩ = some (.int .u8 (z k)) ∧ 0 ≤ z k ∧ z k ≤ 255

def lst (z : Nat → Int) (k : Nat) : List Int := (List.range k).map fun j => z j % 201
theorem lst_length (z : Nat → Int) (k : Nat) : (lst z k).length = k := by simp [lst]
theorem lst_succ (z : Nat → Int) (k : Nat) : ints (lst z (k + 1)) = ints (lst z k) ++ [.int .i64 (z k % 201)] := by simp [lst, ints, List.range_succ]
theorem lst_bd (z : Nat → Int) (k j : Nat) : 0 ≤ (lst z k).getD j 0 ∧ (lst z k).getD j 0 ≤ 200 := by
  rcases Nat.lt_or_ge j k with h | h
  · have : (lst z k).getD j 0 = z j % 201 := by simp [lst, List.getD, h]
    rw [this]; omega
  · have : (lst z k).getD j 0 = 0 := by simp [lst, List.getD, h]
    rw [this]; omega

noncomputable def mPassCode : Code := codeAt ((Try.f7.body).getD .skip) [1, 1, 1, 1, 1, 1, 0, 1, 0, 0, 1, 0, 0]
set_option maxRecDepth 100000 in
set_option maxHeartbeats 20000000 in
theorem mPass {c1 c2 c3 c5 c8 c9 c10 c11 c12 c13 c14 c15 c16 c17 c18 c19 c20 c21 c22 c23 c24 c25 c26 c27 c28 c29 c30 c31 c32 c33 c34 c35 c36 c37 c38 c39 c40 c41 c42 c43 c44 c45 c46 c47 c48 c49 c50 c51 c52 c53 c54 c55 c56 c57 c58 c59 c60 c61 c62 c63 c64 c65 c66 c67 c68 c69 c70 c71 c72 c73 c74 c75 c76 c77 c78 c79 c80 c81 c82 c83 c84 c85 c86 c87 c88 c89 c90 c91 c92 c93 c94 c95 c96 c97 c98 c99 c100 c101 c102 c103 c104 c105 c106 c107 c108 c109 c110 c111 c112 c113 c114 c115 c116 c117 c118 c119 c120 c121 c122 c123 c124 c125 c126 c127 c128 c129 c130 c131 c132 c133 c134 c135 c136 c137 c138 c139 c140 c141 c142 c143 c144 c145 c146 c147 c148 c149 c150 c151 c152 c153 c154 c155 c156 c157 c158 c159 c160 c161 c162 c163 c164 c165 c166 c167 c168 c169 c170 c171 c172 c173 c174 c175 c176 : Value} (w wq : World) (b ga ab ao len c i L C : Nat) (R : Option Addr) (z : Nat → Int) (s : BSt) (a : Nat → Int) (hi : i < len) (hl : len ≤ 9223372036854775807) (hab : ab < w.heap.size)
    (hrow : w.cell? ⟨ab, ao + i, none⟩ = some (.slice R L C)) (hL : L ≤ 9223372036854775807) (hz : ∀ k, k < L → ∃ rb ro, R = some ⟨rb, ro, none⟩ ∧ rb < w.heap.size ∧ w.cell? ⟨rb, ro + k, none⟩ = some (.int .u8 (z k)) ∧ 0 ≤ z k ∧ z k ≤ 255)
    (hP : MW w wq b ga s a) (hn : s.n = 3) (ha : ∀ o, 1 ≤ o → o ≤ 3 → a o = s.mrk o) (K : Act → World → Prop) (Q : Exit → Act → World → Prop)
    (hK : ∀ (u2 u8 u9 u10 u11 u12 u13 u14 u38 u39 u40 u41 u42 u43 u44 u45 u46 u47 u48 u49 u50 u51 u52 u53 u54 u55 u56 u57 u58 u59 u60 u61 u62 u63 u64 u65 u66 u67 u68 u69 u70 u71 u72 u73 u74 u75 u76 u77 u78 u79 u80 u81 u82 u83 u84 u85 u86 u87 u88 u89 u90 u91 u92 u93 u94 u95 u96 u97 u98 u99 u100 u101 u102 u103 u104 u105 u106 u107 u108 u109 u110 u111 u112 u113 u114 u115 u116 u117 u118 u119 u120 u121 u122 u123 u124 u125 u126 u127 u128 u129 u130 u131 u132 u133 u134 u135 u136 u137 u138 u139 u140 u141 u142 u143 u144 u145 u146 u147 u148 u149 u150 u151 u152 u153 u154 u155 u156 u157 u158 u159 u160 u161 u162 u163 u164 u165 u166 u167 u168 u169 u170 u171 u172 u173 u174 u175 : Value) (wx : World) (s' : BSt) (a' : Nat → Int), MW w wx b ga s' a' → s'.n = 3 → (∀ o, 1 ≤ o → o ≤ 3 → a' o = s'.mrk o) → K ⟨#[.slice (some ⟨ab, ao, none⟩) len c, c1, u2, c3, .pointer (some ⟨b, 0, none⟩), c5, .pointer (some ⟨ga, 0, none⟩), .int .i64 (i : Int), u8, u9, u10, u11, u12, u13, u14, c15, c16, c17, c18, c19, c20, c21, c22, c23, c24, c25, c26, c27, c28, c29, c30, c31, c32, c33, c34, c35, c36, c37, u38, u39, u40, u41, u42, u43, u44, u45, u46, u47, u48, u49, u50, u51, u52, u53, u54, u55, u56, u57, u58, u59, u60, u61, u62, u63, u64, u65, u66, u67, u68, u69, u70, u71, u72, u73, u74, u75, u76, u77, u78, u79, u80, u81, u82, u83, u84, u85, u86, u87, u88, u89, u90, u91, u92, u93, u94, u95, u96, u97, u98, u99, u100, u101, u102, u103, u104, u105, u106, u107, u108, u109, u110, u111, u112, u113, u114, u115, u116, u117, u118, u119, u120, u121, u122, u123, u124, u125, u126, u127, u128, u129, u130, u131, u132, u133, u134, u135, u136, u137, u138, u139, u140, u141, u142, u143, u144, u145, u146, u147, u148, u149, u150, u151, u152, u153, u154, u155, u156, u157, u158, u159, u160, u161, u162, u163, u164, u165, u166, u167, u168, u169, u170, u171, u172, u173, u174, u175, c176], []⟩ wx) :
    mPassCode.wp Try.prog (Exit.then K Q) ⟨#[.slice (some ⟨ab, ao, none⟩) len c, c1, c2, c3, .pointer (some ⟨b, 0, none⟩), c5, .pointer (some ⟨ga, 0, none⟩), .int .i64 (i : Int), c8, c9, c10, c11, c12, c13, c14, c15, c16, c17, c18, c19, c20, c21, c22, c23, c24, c25, c26, c27, c28, c29, c30, c31, c32, c33, c34, c35, c36, c37, c38, c39, c40, c41, c42, c43, c44, c45, c46, c47, c48, c49, c50, c51, c52, c53, c54, c55, c56, c57, c58, c59, c60, c61, c62, c63, c64, c65, c66, c67, c68, c69, c70, c71, c72, c73, c74, c75, c76, c77, c78, c79, c80, c81, c82, c83, c84, c85, c86, c87, c88, c89, c90, c91, c92, c93, c94, c95, c96, c97, c98, c99, c100, c101, c102, c103, c104, c105, c106, c107, c108, c109, c110, c111, c112, c113, c114, c115, c116, c117, c118, c119, c120, c121, c122, c123, c124, c125, c126, c127, c128, c129, c130, c131, c132, c133, c134, c135, c136, c137, c138, c139, c140, c141, c142, c143, c144, c145, c146, c147, c148, c149, c150, c151, c152, c153, c154, c155, c156, c157, c158, c159, c160, c161, c162, c163, c164, c165, c166, c167, c168, c169, c170, c171, c172, c173, c174, c175, c176], []⟩ wq := by
  obtain ⟨i0, hi0, hz0, hz1, hz2⟩ := info_parts int_info
  have hgaq := hP.row.lt
  have hbq := hP.own.bt.lt
  have hwq := hP.own.bel.size
  have HK := hide hK
  have HP := hide hP
  have HA := hide ha
  have HN := hide hn
  have HZ := hide hz
  clear hK hP ha hn hz
  conv => arg 2; whnf
  go_upto_block 2 with fail
  rename_i K2 hK2
  have HK2 := hide hK2
  clear hK2
  refine wp_block_then ?_
  go_loopg [8, 9] (min L 5 + 1) (fun q v i9 wr => ∃ k : Nat, i9 = .int .i64 k ∧ k ≤ min L 5 ∧ q = min L 5 + 1 - k ∧ ∃ A cA, v = .slice A k cA ∧ wr.ownsRow wq.heap.size 3 1 (.slice A k cA) k (ints (lst z k)) ∧ MW w wr b ga s a ∧ wq.heap.size ≤ wr.heap.size)
  case atStart => exact ⟨0, rfl, by omega, by omega, none, 0, rfl, World.ownsRow_nil _ _ _ _, HP.out, Nat.le_refl _⟩
  case round =>
    obtain ⟨k, rfl, hk, rfl, A, cA, rfl, hown, h1, hsq⟩ := hrel
    have e0 := (h1.own.bel.cell (p := ⟨ab, ao + i, none⟩) hab).trans hrow
    have i1 : (i : Int) < len := by omega
    have H1 := hide h1
    by_cases hlt : k < min L 5
    · have k1 : (k : Int) < L := by omega
      have k5 : (k : Int) < 5 := by omega
      have k2 : k < L := by omega
      obtain ⟨rb, ro, hR, hrb, hc, y0, y1⟩ := HZ.out k k2
      subst hR
      have c1 := (h1.own.bel.cell (p := ⟨rb, ro + k, none⟩) hrb).trans hc
      obtain ⟨x, hx⟩ : ∃ x, x = z k := ⟨_, rfl⟩
      obtain ⟨y, hy⟩ : ∃ y, y = z k % 201 := ⟨_, rfl⟩
      rw [← hx] at c1
      have t0 : Int.tmod x 201 = y := by rw [hx, hy]; exact Int.tmod_eq_emod_of_nonneg y0
      have y2 : 0 ≤ y ∧ y ≤ 200 := by rw [hy]; omega
      have t1 : IntKind.u8.wrap y = y := IntWalk.u8_in _ (by omega)
      have t2 : IntKind.i64.wrap y = y := IntWalk.i64_in _ (by omega)
      have HY := hide hy
      have hws := h1.own.bel.size
      have hsz : wq.heap.size ≤ (wr.alloc (.cells #[.int .i64 y] 3)).heap.size := by rw [World.size_alloc]; omega
      clear hx hy h1 hc
      go_wp2_with (at_builtin; go_must (refine wpList_append_own _ rfl (.tmp 51) (.tmp 61) _ rfl wq.heap.size 3 i0 _ 1 8 Try.underlying32 hi0 hz0 hz1 hz2 rfl (by omega) (.slice A k cA) k (ints (lst z k)) rfl (hown.alloc _) ⟨wr.heap.size, 0, none⟩ 1 1 [.int .i64 y] rfl rfl (cell_one_new _ _ _) (one_ints [y]) (by simp only [maxLen]; omega) (by omega) hsz ?_); intro v1 w1 hown1 hgr _)
      obtain ⟨A1, cA1, rfl⟩ : ∃ A1 cA1, v1 = .slice A1 (k + 1) cA1 := by
        rcases hown1.2 with ⟨rfl, h0⟩ | ⟨g, cap, cur, rfl, _⟩
        · omega
        · exact ⟨_, _, rfl⟩
      have h2 := (H1.out.alloc (.cells #[.int .i64 y] 3)).side hgr (fun g e => (hown.lt g e).1) hwq hbq hgaq
      rw [HY.out, ← lst_succ] at hown1
      go_roundg (min L 5 + 1 - (k + 1))
      case measure => omega
      case rel => exact ⟨k + 1, by go_num, by omega, rfl, A1, cA1, rfl, hown1, h2, Nat.le_trans hsz hgr.size⟩
    · have hc : k = L ∨ (k = 5 ∧ 5 ≤ L) := by omega
      have hk5 : k ≤ 5 := by omega
      have OW := hide hown
      clear hown h1
      have fin : ∀ (x2 x8 x9 x10 x11 x12 x13 x14 x38 x39 x40 x41 x42 x43 x44 x45 x46 x47 x48 x49 x50 x51 x52 x53 x54 x55 x56 x57 x58 x59 x60 x61 x62 x63 x64 x65 x66 x67 x68 x69 x70 x71 x72 x73 x74 x75 x76 x77 x78 x79 x80 x81 x82 x83 x84 x85 x86 x87 x88 x89 x90 x91 x92 x93 x94 x95 x96 x97 x98 x99 x100 x101 x102 x103 x104 x105 x106 x107 x108 x109 x110 x111 x112 x113 x114 x115 x116 x117 x118 x119 x120 x121 x122 x123 x124 x125 x126 x127 x128 x129 x130 x131 x132 x133 x134 x135 x136 x137 x138 x139 x140 x141 x142 x143 x144 x145 x146 x147 x148 x149 x150 x151 x152 x153 x154 x155 x156 x157 x158 x159 x160 x161 x162 x163 x164 x165 x166 x167 x168 x169 x170 x171 x172 x173 x174 x175 : Value), True := fun _ _ _ _ _ _ _ _ _ _ _ _ _ _ _ _ _ _ _ _ _ _ _ _ _ _ _ _ _ _ _ _ _ _ _ _ _ _ _ _ _ _ _ _ _ _ _ _ _ _ _ _ _ _ _ _ _ _ _ _ _ _ _ _ _ _ _ _ _ _ _ _ _ _ _ _ _ _ _ _ _ _ _ _ _ _ _ _ _ _ _ _ _ _ _ _ _ _ _ _ _ _ _ _ _ _ _ _ _ _ _ _ _ _ _ _ _ _ _ _ _ _ _ _ _ _ _ _ _ _ _ _ _ _ _ _ _ _ _ _ _ _ _ _ _ _ => trivial
      rcases hc with rfl | ⟨rfl, h5⟩
      · have k1 : ((k : Int) < k) = False := by simp
        go_wp2_with fail
        refine HK2.out _ _ ?_
        refine mMid w wr b ga k cA wq.heap.size A s a (lst z k) hk5 (lst_length _ _) (lst_bd _ _) H1.out HN.out HA.out OW.out hbq hgaq K _ ?_
        intro v2 v10 v11 v12 v13 v14 v63 v64 v65 v66 v67 v68 v69 v70 v71 v72 v73 v74 v75 v76 v77 v78 v79 v80 v81 v82 v83 v84 v85 v86 v87 v88 v89 v90 v91 v92 v93 v94 v95 v96 v97 v98 v99 v100 v101 v102 v103 v104 v105 v106 v107 v108 v109 v110 v111 v112 v113 v114 v115 v116 v117 v118 v119 v120 v121 v122 v123 v124 v125 v126 v127 v128 v129 v130 v131 v132 v133 v134 v135 v136 v137 v138 v139 v140 v141 v142 v143 v144 v145 v146 v147 v148 v149 v150 v151 v152 v153 v154 v155 v156 v157 v158 v159 v160 v161 v162 v163 v164 v165 v166 v167 v168 v169 v170 v171 v172 v173 v174 v175 wx s' a' g1 g2 g3
        exact HK.out _ _ _ _ _ _ _ _ _ _ _ _ _ _ _ _ _ _ _ _ _ _ _ _ _ _ _ _ _ _ _ _ _ _ _ _ _ _ _ _ _ _ _ _ _ _ _ _ _ _ _ _ _ _ _ _ _ _ _ _ _ _ _ _ _ _ _ _ _ _ _ _ _ _ _ _ _ _ _ _ _ _ _ _ _ _ _ _ _ _ _ _ _ _ _ _ _ _ _ _ _ _ _ _ _ _ _ _ _ _ _ _ _ _ _ _ _ _ _ _ _ _ _ _ _ _ _ _ _ _ _ _ _ _ _ _ _ _ _ _ _ _ _ _ _ _ wx s' a' g1 g2 g3
      · have k1 : (5 : Int) < L ∨ (L : Int) = 5 := by omega
        rcases k1 with k1 | k1
        · go_wp2_with fail
          refine HK2.out _ _ ?_
          refine mMid w wr b ga 5 cA wq.heap.size A s a (lst z 5) hk5 (lst_length _ _) (lst_bd _ _) H1.out HN.out HA.out OW.out hbq hgaq K _ ?_
          intro v2 v10 v11 v12 v13 v14 v63 v64 v65 v66 v67 v68 v69 v70 v71 v72 v73 v74 v75 v76 v77 v78 v79 v80 v81 v82 v83 v84 v85 v86 v87 v88 v89 v90 v91 v92 v93 v94 v95 v96 v97 v98 v99 v100 v101 v102 v103 v104 v105 v106 v107 v108 v109 v110 v111 v112 v113 v114 v115 v116 v117 v118 v119 v120 v121 v122 v123 v124 v125 v126 v127 v128 v129 v130 v131 v132 v133 v134 v135 v136 v137 v138 v139 v140 v141 v142 v143 v144 v145 v146 v147 v148 v149 v150 v151 v152 v153 v154 v155 v156 v157 v158 v159 v160 v161 v162 v163 v164 v165 v166 v167 v168 v169 v170 v171 v172 v173 v174 v175 wx s' a' g1 g2 g3
          exact HK.out _ _ _ _ _ _ _ _ _ _ _ _ _ _ _ _ _ _ _ _ _ _ _ _ _ _ _ _ _ _ _ _ _ _ _ _ _ _ _ _ _ _ _ _ _ _ _ _ _ _ _ _ _ _ _ _ _ _ _ _ _ _ _ _ _ _ _ _ _ _ _ _ _ _ _ _ _ _ _ _ _ _ _ _ _ _ _ _ _ _ _ _ _ _ _ _ _ _ _ _ _ _ _ _ _ _ _ _ _ _ _ _ _ _ _ _ _ _ _ _ _ _ _ _ _ _ _ _ _ _ _ _ _ _ _ _ _ _ _ _ _ _ _ _ _ _ wx s' a' g1 g2 g3
        · obtain rfl : L = 5 := by omega
          go_wp2_with fail
          refine HK2.out _ _ ?_
          refine mMid w wr b ga 5 cA wq.heap.size A s a (lst z 5) hk5 (lst_length _ _) (lst_bd _ _) H1.out HN.out HA.out OW.out hbq hgaq K _ ?_
          intro v2 v10 v11 v12 v13 v14 v63 v64 v65 v66 v67 v68 v69 v70 v71 v72 v73 v74 v75 v76 v77 v78 v79 v80 v81 v82 v83 v84 v85 v86 v87 v88 v89 v90 v91 v92 v93 v94 v95 v96 v97 v98 v99 v100 v101 v102 v103 v104 v105 v106 v107 v108 v109 v110 v111 v112 v113 v114 v115 v116 v117 v118 v119 v120 v121 v122 v123 v124 v125 v126 v127 v128 v129 v130 v131 v132 v133 v134 v135 v136 v137 v138 v139 v140 v141 v142 v143 v144 v145 v146 v147 v148 v149 v150 v151 v152 v153 v154 v155 v156 v157 v158 v159 v160 v161 v162 v163 v164 v165 v166 v167 v168 v169 v170 v171 v172 v173 v174 v175 wx s' a' g1 g2 g3
          exact HK.out _ _ _ _ _ _ _ _ _ _ _ _ _ _ _ _ _ _ _ _ _ _ _ _ _ _ _ _ _ _ _ _ _ _ _ _ _ _ _ _ _ _ _ _ _ _ _ _ _ _ _ _ _ _ _ _ _ _ _ _ _ _ _ _ _ _ _ _ _ _ _ _ _ _ _ _ _ _ _ _ _ _ _ _ _ _ _ _ _ _ _ _ _ _ _ _ _ _ _ _ _ _ _ _ _ _ _ _ _ _ _ _ _ _ _ _ _ _ _ _ _ _ _ _ _ _ _ _ _ _ _ _ _ _ _ _ _ _ _ _ _ _ _ _ _ _ wx s' a' g1 g2 g3

set_option maxRecDepth 100000 in
set_option maxHeartbeats 20000000 in
theorem marks_law (A : Option Addr) (len c : Nat) (w : World) (hl : len ≤ 9223372036854775807) (hR : Rows8 w A len) :
    Calls Try.prog 7 #[.slice A len c] w fun e w' => e = .returned (.bool true) ∧ Below w.heap.size w w' := by
  have HR := hide hR
  clear hR
  go_enter Try.func7, Try.ntmps7
  go_wp2_with fail
  refine (examples_any _).mono ?_
  rintro e w1 ⟨rfl, hb1⟩
  go_wp2_with fail
  refine (own_new 3 1 5 w _ (by decide) hb1).mono ?_
  rintro e w2 ⟨b, rfl, h2⟩
  have hb2 := h2.bt.lt
  have hrow : (w2.alloc (.cells #[.int .i64 0, .int .i64 0, .int .i64 0, .int .i64 0] 50)).rowIs w2.heap.size 50 4 (fun _ => .int .i64 0) :=
    World.rowIs_alloc w2 #[.int .i64 0, .int .i64 0, .int .i64 0, .int .i64 0] 50 _ (fun i hi => by match i, hi with | 0, _ => rfl | 1, _ => rfl | 2, _ => rfl | 3, _ => rfl)
  have h3 : MW w (w2.alloc (.cells #[.int .i64 0, .int .i64 0, .int .i64 0, .int .i64 0] 50)) b w2.heap.size (BSt.init 3 1 5) (fun _ => 0) := ⟨h2.alloc _, hrow, h2.bel.size, by omega⟩
  have H3 := hide h3
  clear hb1 h2 hb2 hrow h3
  go_upto_block 0 with fail
  rename_i K0 hK0
  have HK0 := hide hK0
  clear hK0
  refine wp_block_then ?_
  go_loopg [7] (min len 12 + 1) (fun q v wr => ∃ i : Nat, v = .int .i64 i ∧ i ≤ min len 12 ∧ q = min len 12 + 1 - i ∧ ∃ s a, MW w wr b w2.heap.size s a ∧ s.n = 3 ∧ ∀ o, 1 ≤ o → o ≤ 3 → a o = s.mrk o)
  case atStart => exact ⟨0, rfl, by omega, by omega, _, _, H3.out, rfl, fun _ _ _ => rfl⟩
  case round =>
    obtain ⟨i, rfl, hi, rfl, s, a, h1, hn, ha⟩ := hrel
    by_cases hlt : i < min len 12
    · have i1 : (i : Int) < len := by omega
      have i2 : (i : Int) < 12 := by omega
      have i3 : i < len := by omega
      obtain ⟨ab, ao, R, L, C, z, hA, hab, hc, hL, hz⟩ := HR.out i i3
      subst hA
      have H1 := hide h1
      have HC := hide (And.intro hc hz)
      have HA := hide ha
      clear h1 hc hz ha
      go_upto_block 1 with fail
      rename_i K1 hK1
      have HK1 := hide hK1
      clear hK1
      refine wp_block_then ?_
      refine mPass w wr b w2.heap.size ab ao len c i L C R z s a i3 hl hab HC.out.1 hL HC.out.2 H1.out hn HA.out _ _ ?_
      intro v2 v8 v9 v10 v11 v12 v13 v14 v38 v39 v40 v41 v42 v43 v44 v45 v46 v47 v48 v49 v50 v51 v52 v53 v54 v55 v56 v57 v58 v59 v60 v61 v62 v63 v64 v65 v66 v67 v68 v69 v70 v71 v72 v73 v74 v75 v76 v77 v78 v79 v80 v81 v82 v83 v84 v85 v86 v87 v88 v89 v90 v91 v92 v93 v94 v95 v96 v97 v98 v99 v100 v101 v102 v103 v104 v105 v106 v107 v108 v109 v110 v111 v112 v113 v114 v115 v116 v117 v118 v119 v120 v121 v122 v123 v124 v125 v126 v127 v128 v129 v130 v131 v132 v133 v134 v135 v136 v137 v138 v139 v140 v141 v142 v143 v144 v145 v146 v147 v148 v149 v150 v151 v152 v153 v154 v155 v156 v157 v158 v159 v160 v161 v162 v163 v164 v165 v166 v167 v168 v169 v170 v171 v172 v173 v174 v175 wx s' a' g1 g2 g3
      refine HK1.out _ _ ?_
      clear HK1
      have G1 := hide g1
      have G3 := hide g3
      clear g1 g3
      go_wp2_with fail
      go_roundg (min len 12 + 1 - (i + 1))
      case measure => omega
      case rel => exact ⟨i + 1, by go_num, by omega, rfl, s', a', G1.out, g2, G3.out⟩
    · have hc : i = len ∨ (i = 12 ∧ 12 ≤ len) := by omega
      have B := h1.own.bel
      clear h1
      rcases hc with rfl | ⟨rfl, h12⟩
      · have i1 : ((i : Int) < i) = False := by simp
        go_wp2_with fail
        refine HK0.out _ _ ?_
        clear HK0
        go_wp2_with fail
        go_ret
        exact ⟨rfl, B⟩
      · have i1 : (12 : Int) < len ∨ len = 12 := by omega
        rcases i1 with i1 | rfl
        · go_wp2_with fail
          refine HK0.out _ _ ?_
          clear HK0
          go_wp2_with fail
          go_ret
          exact ⟨rfl, B⟩
        · go_wp2_with fail
          refine HK0.out _ _ ?_
          clear HK0
          go_wp2_with fail
          go_ret
          exact ⟨rfl, B⟩


end Go.Proofs.Ytonjpdidbgicgaa
