/-
  Chapter 19: BeatMarks: the end of a round.
-/
import Derived.Test.YtonjpdidbgicgaaM3
namespace Go.Proofs.Ytonjpdidbgicgaa
open Go.RowKit
set_option linter.unusedVariables false

noncomputable def mEndCode : Code := codeAt ((Try.f7.body).getD .skip) [1, 1, 1, 1, 1, 1, 0, 1, 0, 0, 1, 0, 0, 1, 1, 1, 1]
set_option maxRecDepth 100000 in
set_option maxHeartbeats 20000000 in
theorem mEnd {c0 c1 c2 c3 c5 c7 c9 c11 c12 c13 c14 c15 c16 c17 c18 c19 c20 c21 c22 c23 c24 c25 c26 c27 c28 c29 c30 c31 c32 c33 c34 c35 c36 c37 c38 c39 c40 c41 c42 c43 c44 c45 c46 c47 c48 c49 c50 c51 c52 c53 c54 c55 c56 c57 c58 c59 c60 c61 c62 c63 c64 c65 c66 c67 c68 c69 c70 c71 c72 c73 c74 c75 c76 c77 c78 c79 c80 c81 c82 c83 c84 c85 c86 c87 c88 c89 c90 c91 c92 c93 c94 c95 c96 c97 c98 c99 c100 c101 c102 c103 c104 c105 c106 c107 c108 c109 c110 c111 c112 c113 c114 c115 c116 c117 c118 c119 c120 c121 c122 c123 c124 c125 c126 c127 c128 c129 c130 c131 c132 c133 c134 c135 c136 c137 c138 c139 c140 c141 c142 c143 c144 c145 c146 c147 c148 c149 c150 c151 c152 c153 c154 c155 c156 c157 c158 c159 c160 c161 c162 c163 c164 c165 c166 c167 c168 c169 c170 c171 c172 c173 c174 c175 c176 : Value} (w wq : World) (b ga n T cA cB : Nat) (A AB : Option Addr) (s : BSt) (a : Nat → Int) (l : List Int) (hn5 : n ≤ 5) (hT : T ≤ 1000)
    (hP : MW w wq b ga s a) (hn : s.n = 3) (ha : ∀ o, 1 ≤ o → o ≤ 3 → a o = s.mrk o) (hM : ∀ k, k < n → ∃ gm, A = some ⟨gm, 0, none⟩ ∧ wq.cell? ⟨gm, k, none⟩ = some (.int .i64 (l.getD k 0)))
    (hF : ∀ o, 1 ≤ o → o ≤ 3 → o ≤ n → l.getD (o - 1) 0 ≤ a o ∨ 64 ≤ T) (K : Act → World → Prop) (Q : Exit → Act → World → Prop)
    (hK : ∀ (u2 u13 u14 u136 u137 u138 u139 u140 u141 u142 u143 u144 u145 u146 u147 u148 u149 u150 u151 u152 u153 u154 u155 u156 u157 u158 u159 u160 u161 u162 u163 u164 u165 u166 u167 u168 u169 u170 u171 u172 u173 u174 u175 : Value) (wx : World), MW w wx b ga s a → K ⟨#[c0, c1, u2, c3, .pointer (some ⟨b, 0, none⟩), c5, .pointer (some ⟨ga, 0, none⟩), c7, .slice A n cA, c9, .slice AB T cB, c11, c12, u13, u14, c15, c16, c17, c18, c19, c20, c21, c22, c23, c24, c25, c26, c27, c28, c29, c30, c31, c32, c33, c34, c35, c36, c37, c38, c39, c40, c41, c42, c43, c44, c45, c46, c47, c48, c49, c50, c51, c52, c53, c54, c55, c56, c57, c58, c59, c60, c61, c62, c63, c64, c65, c66, c67, c68, c69, c70, c71, c72, c73, c74, c75, c76, c77, c78, c79, c80, c81, c82, c83, c84, c85, c86, c87, c88, c89, c90, c91, c92, c93, c94, c95, c96, c97, c98, c99, c100, c101, c102, c103, c104, c105, c106, c107, c108, c109, c110, c111, c112, c113, c114, c115, c116, c117, c118, c119, c120, c121, c122, c123, c124, c125, c126, c127, c128, c129, c130, c131, c132, c133, c134, c135, u136, u137, u138, u139, u140, u141, u142, u143, u144, u145, u146, u147, u148, u149, u150, u151, u152, u153, u154, u155, u156, u157, u158, u159, u160, u161, u162, u163, u164, u165, u166, u167, u168, u169, u170, u171, u172, u173, u174, u175, c176], []⟩ wx) :
    mEndCode.wp Try.prog (Exit.then K Q) ⟨#[c0, c1, c2, c3, .pointer (some ⟨b, 0, none⟩), c5, .pointer (some ⟨ga, 0, none⟩), c7, .slice A n cA, c9, .slice AB T cB, c11, c12, c13, c14, c15, c16, c17, c18, c19, c20, c21, c22, c23, c24, c25, c26, c27, c28, c29, c30, c31, c32, c33, c34, c35, c36, c37, c38, c39, c40, c41, c42, c43, c44, c45, c46, c47, c48, c49, c50, c51, c52, c53, c54, c55, c56, c57, c58, c59, c60, c61, c62, c63, c64, c65, c66, c67, c68, c69, c70, c71, c72, c73, c74, c75, c76, c77, c78, c79, c80, c81, c82, c83, c84, c85, c86, c87, c88, c89, c90, c91, c92, c93, c94, c95, c96, c97, c98, c99, c100, c101, c102, c103, c104, c105, c106, c107, c108, c109, c110, c111, c112, c113, c114, c115, c116, c117, c118, c119, c120, c121, c122, c123, c124, c125, c126, c127, c128, c129, c130, c131, c132, c133, c134, c135, c136, c137, c138, c139, c140, c141, c142, c143, c144, c145, c146, c147, c148, c149, c150, c151, c152, c153, c154, c155, c156, c157, c158, c159, c160, c161, c162, c163, c164, c165, c166, c167, c168, c169, c170, c171, c172, c173, c174, c175, c176], []⟩ wq := by
  have HK := hide hK
  have HP := hide hP
  have HM := hide hM
  have HF := hide hF
  have HA := hide ha
  clear hK hP hM hF ha
  conv => arg 2; whnf
  go_wp2_with fail
  refine (own_marks w _ b s HP.out.own).mono ?_
  rintro e w1 ⟨g2, cap2, rfl, hg2, hm, hb1, h1⟩
  have e3 : s.n.toNat = 3 := by omega
  rw [e3] at hm
  rw [e3]
  have M1 := hide ((show w1.cell? ⟨g2, 0, none⟩ = some (.int .i64 (a 1)) by rw [HA.out 1 (by omega) (by omega)]; exact (hm.cellAt 0 (by omega)).trans (by simp [ints, BSt.marks, e3, List.range_succ])))
  have M2 := hide ((show w1.cell? ⟨g2, 1, none⟩ = some (.int .i64 (a 2)) by rw [HA.out 2 (by omega) (by omega)]; exact (hm.cellAt 1 (by omega)).trans (by simp [ints, BSt.marks, e3, List.range_succ])))
  have M3 := hide ((show w1.cell? ⟨g2, 2, none⟩ = some (.int .i64 (a 3)) by rw [HA.out 3 (by omega) (by omega)]; exact (hm.cellAt 2 (by omega)).trans (by simp [ints, BSt.marks, e3, List.range_succ])))
  have HB := hide hb1
  have P1 := hide (HP.out.below hb1)
  clear hm hb1 h1 e3 HP hg2 HA
  go_wp2_with fail
  go_loopg [14] 3 (fun q i wr => ∃ d, wr = w1.drewN d ∧ ((i = .int .i64 1 ∧ q = 3) ∨ (i = .int .i64 2 ∧ q = 2) ∨ (i = .int .i64 3 ∧ q = 1) ∨ (i = .int .i64 4 ∧ q = 0)))
  case atStart => exact ⟨0, rfl, .inl ⟨rfl, rfl⟩⟩
  case round =>
    obtain ⟨d, hw, hq⟩ := hrel
    have H1 : MW w wr b ga s a := by rw [hw]; exact P1.out.drewN d
    have z0 : IntKind.i64.wrap 0 = 0 := by decide
    have z1 : IntKind.i64.wrap 1 = 1 := by decide
    have z2 : IntKind.i64.wrap 2 = 2 := by decide
    rcases hq with ⟨rfl, rfl⟩ | ⟨rfl, rfl⟩ | ⟨rfl, rfl⟩ | ⟨rfl, rfl⟩
    · have a1 := H1.cell (j := 1) (by omega)
      have m1 : wr.cell? ⟨g2, 0, none⟩ = some (.int .i64 (a 1)) := by rw [hw]; exact M1.out
      obtain ⟨v, hv⟩ : ∃ v, v = a 1 := ⟨_, rfl⟩
      have hf := HF.out 1 (by omega) (by omega)
      rw [← hv] at a1 m1 hf
      have q1 : (v != v) = false := by simp
      have HW := hide hw
      clear hw hv H1
      rcases Nat.lt_or_ge n 1 with hn | hn
      · have n1 : decide ((1 : Int) ≤ n) = false := decide_eq_false (by omega)
        clear hf
        go_wp2_with fail
        go_quiet (fail)
        go_wp2_with fail
        have HH := HW.out
        subst HH
        go_roundg 2
        case measure => omega
        case rel => exact ⟨_, World.drewN_drewN _ _ _, by simp⟩
      · obtain ⟨gm, rfl, cm⟩ := HM.out 0 (by omega)
        have cm1 : wr.cell? ⟨gm, 0, none⟩ = some (.int .i64 (l.getD 0 0)) := by rw [HW.out]; exact (HB.out.cell (p := ⟨gm, 0, none⟩) (World.block_lt_of_cell? _ _ cm)).trans cm
        obtain ⟨x, hx⟩ : ∃ x, x = l.getD 0 0 := ⟨_, rfl⟩
        have hf2 := hf hn
        simp only [Nat.reduceSub] at hf2
        rw [← hx] at cm1 hf2
        have n1 : (1 : Int) ≤ n := by omega
        have n2 : 0 < n := by omega
        clear hx cm hf
        rcases hf2 with hf2 | hf2
        · have f1 : decide (v < x) = false := decide_eq_false (by omega)
          have f2 : x ≤ v := hf2
          clear hf2
          go_wp2_with fail
          go_quiet (fail)
          go_wp2_with fail
          have HH := HW.out
          subst HH
          go_roundg 2
          case measure => omega
          case rel => exact ⟨_, World.drewN_drewN _ _ _, by simp⟩
        · have f1 : decide ((T : Int) < 64) = false := decide_eq_false (by omega)
          have f2 : 64 ≤ T := hf2
          clear hf2
          by_cases f3 : v < x
          · go_wp2_with fail
            go_quiet (fail)
            go_wp2_with fail
            have HH := HW.out
            subst HH
            go_roundg 2
            case measure => omega
            case rel => exact ⟨_, World.drewN_drewN _ _ _, by simp⟩
          · have f4 : decide (v < x) = false := decide_eq_false f3
            go_wp2_with fail
            go_quiet (fail)
            go_wp2_with fail
            have HH := HW.out
            subst HH
            go_roundg 2
            case measure => omega
            case rel => exact ⟨_, World.drewN_drewN _ _ _, by simp⟩
    · have a1 := H1.cell (j := 2) (by omega)
      have m1 : wr.cell? ⟨g2, 1, none⟩ = some (.int .i64 (a 2)) := by rw [hw]; exact M2.out
      obtain ⟨v, hv⟩ : ∃ v, v = a 2 := ⟨_, rfl⟩
      have hf := HF.out 2 (by omega) (by omega)
      rw [← hv] at a1 m1 hf
      have q1 : (v != v) = false := by simp
      have HW := hide hw
      clear hw hv H1
      rcases Nat.lt_or_ge n 2 with hn | hn
      · have n1 : decide ((2 : Int) ≤ n) = false := decide_eq_false (by omega)
        clear hf
        go_wp2_with fail
        go_quiet (fail)
        go_wp2_with fail
        have HH := HW.out
        subst HH
        go_roundg 1
        case measure => omega
        case rel => exact ⟨_, World.drewN_drewN _ _ _, by simp⟩
      · obtain ⟨gm, rfl, cm⟩ := HM.out 1 (by omega)
        have cm1 : wr.cell? ⟨gm, 1, none⟩ = some (.int .i64 (l.getD 1 0)) := by rw [HW.out]; exact (HB.out.cell (p := ⟨gm, 1, none⟩) (World.block_lt_of_cell? _ _ cm)).trans cm
        obtain ⟨x, hx⟩ : ∃ x, x = l.getD 1 0 := ⟨_, rfl⟩
        have hf2 := hf hn
        simp only [Nat.reduceSub] at hf2
        rw [← hx] at cm1 hf2
        have n1 : (2 : Int) ≤ n := by omega
        have n2 : 1 < n := by omega
        clear hx cm hf
        rcases hf2 with hf2 | hf2
        · have f1 : decide (v < x) = false := decide_eq_false (by omega)
          have f2 : x ≤ v := hf2
          clear hf2
          go_wp2_with fail
          go_quiet (fail)
          go_wp2_with fail
          have HH := HW.out
          subst HH
          go_roundg 1
          case measure => omega
          case rel => exact ⟨_, World.drewN_drewN _ _ _, by simp⟩
        · have f1 : decide ((T : Int) < 64) = false := decide_eq_false (by omega)
          have f2 : 64 ≤ T := hf2
          clear hf2
          by_cases f3 : v < x
          · go_wp2_with fail
            go_quiet (fail)
            go_wp2_with fail
            have HH := HW.out
            subst HH
            go_roundg 1
            case measure => omega
            case rel => exact ⟨_, World.drewN_drewN _ _ _, by simp⟩
          · have f4 : decide (v < x) = false := decide_eq_false f3
            go_wp2_with fail
            go_quiet (fail)
            go_wp2_with fail
            have HH := HW.out
            subst HH
            go_roundg 1
            case measure => omega
            case rel => exact ⟨_, World.drewN_drewN _ _ _, by simp⟩
    · have a1 := H1.cell (j := 3) (by omega)
      have m1 : wr.cell? ⟨g2, 2, none⟩ = some (.int .i64 (a 3)) := by rw [hw]; exact M3.out
      obtain ⟨v, hv⟩ : ∃ v, v = a 3 := ⟨_, rfl⟩
      have hf := HF.out 3 (by omega) (by omega)
      rw [← hv] at a1 m1 hf
      have q1 : (v != v) = false := by simp
      have HW := hide hw
      clear hw hv H1
      rcases Nat.lt_or_ge n 3 with hn | hn
      · have n1 : decide ((3 : Int) ≤ n) = false := decide_eq_false (by omega)
        clear hf
        go_wp2_with fail
        go_quiet (fail)
        go_wp2_with fail
        have HH := HW.out
        subst HH
        go_roundg 0
        case measure => omega
        case rel => exact ⟨_, World.drewN_drewN _ _ _, by simp⟩
      · obtain ⟨gm, rfl, cm⟩ := HM.out 2 (by omega)
        have cm1 : wr.cell? ⟨gm, 2, none⟩ = some (.int .i64 (l.getD 2 0)) := by rw [HW.out]; exact (HB.out.cell (p := ⟨gm, 2, none⟩) (World.block_lt_of_cell? _ _ cm)).trans cm
        obtain ⟨x, hx⟩ : ∃ x, x = l.getD 2 0 := ⟨_, rfl⟩
        have hf2 := hf hn
        simp only [Nat.reduceSub] at hf2
        rw [← hx] at cm1 hf2
        have n1 : (3 : Int) ≤ n := by omega
        have n2 : 2 < n := by omega
        clear hx cm hf
        rcases hf2 with hf2 | hf2
        · have f1 : decide (v < x) = false := decide_eq_false (by omega)
          have f2 : x ≤ v := hf2
          clear hf2
          go_wp2_with fail
          go_quiet (fail)
          go_wp2_with fail
          have HH := HW.out
          subst HH
          go_roundg 0
          case measure => omega
          case rel => exact ⟨_, World.drewN_drewN _ _ _, by simp⟩
        · have f1 : decide ((T : Int) < 64) = false := decide_eq_false (by omega)
          have f2 : 64 ≤ T := hf2
          clear hf2
          by_cases f3 : v < x
          · go_wp2_with fail
            go_quiet (fail)
            go_wp2_with fail
            have HH := HW.out
            subst HH
            go_roundg 0
            case measure => omega
            case rel => exact ⟨_, World.drewN_drewN _ _ _, by simp⟩
          · have f4 : decide (v < x) = false := decide_eq_false f3
            go_wp2_with fail
            go_quiet (fail)
            go_wp2_with fail
            have HH := HW.out
            subst HH
            go_roundg 0
            case measure => omega
            case rel => exact ⟨_, World.drewN_drewN _ _ _, by simp⟩
    · go_wp2_with fail
      subst hw
      exact HK.out _ _ _ _ _ _ _ _ _ _ _ _ _ _ _ _ _ _ _ _ _ _ _ _ _ _ _ _ _ _ _ _ _ _ _ _ _ _ _ _ _ _ _ _ H1

end Go.Proofs.Ytonjpdidbgicgaa
