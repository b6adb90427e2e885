/-
  Replicas are heard, marked, taken, deed by deed, as the chapter says: the law's walk.
-/
import Derived.Test.YtonjpdidbgicgaaP7
namespace Go.Proofs.Ytonjpdidbgicgaa
open Go.RowKit

def Deeds (w : World) (A : Option Addr) (len : Nat) : Prop :=
  ∀ i, i < len → ∃ ab ao, A = some ⟨ab, ao, none⟩ ∧ ab < w.heap.size ∧ ∃ k who nn now MA mn mc ml nr, DeedAt w ab ao i k who nn now MA mn mc ml nr

set_option maxRecDepth 100000 in
set_option maxHeartbeats 4000000 in
theorem plays_law (n me p : Int) (near : Bool) (A : Option Addr) (len c : Nat) (w : World) (hl : len ≤ 9223372036854775807) (hD : Deeds w A len) (p0 : 0 ≤ p ∧ p ≤ 18446744073709551615) :
    Calls Try.prog 3 #[.int .i64 n, .int .i64 me, .int .u64 p, .bool near, .slice A len c] w fun e w' => e = .returned (.bool true) ∧ Below w.heap.size w w' := by
  have HD := hide hD
  clear hD
  go_enter Try.func3, Try.ntmps3
  go_wp2_with fail
  refine (examples_any _).mono ?_
  rintro e w1 ⟨rfl, hb1⟩
  go_upto_if 26 with fail
  go_cut [0, 1, 2] (fun a b c wx => ∃ n' me' p' : Int, a = .int .i64 n' ∧ b = .int .i64 me' ∧ c = .int .u64 p' ∧ (0 ≤ p' ∧ p' ≤ 18446744073709551615) ∧ wx = w1)
  case first =>
    cases near with
    | false =>
      go_wp2_with fail
      go_meet
      exact ⟨n, me, p, rfl, rfl, rfl, p0, rfl⟩
    | true =>
      have un : 0 ≤ IntKind.u64.wrap n ∧ IntKind.u64.wrap n ≤ 18446744073709551615 := by rw [IntKind.wrap_u64]; omega
      have um : 0 ≤ IntKind.u64.wrap me ∧ IntKind.u64.wrap me ≤ 18446744073709551615 := by rw [IntKind.wrap_u64]; omega
      have z0 : ((1 + IntKind.u64.wrap n % 7 : Int) == 0) = false := by simp; omega
      go_wp2_with fail
      go_meet
      exact ⟨_, _, _, rfl, rfl, rfl, ⟨by omega, by omega⟩, rfl⟩
  case rest =>
    obtain ⟨n', me', p', rfl, rfl, rfl, p1, rfl⟩ := hcut
    cases hm : mayB n' me' p' with
    | false =>
      have HM := hide hm
      clear hm
      go_wp2_with fail
      refine (new_bad n' me' p' _ HM.out p1.1).mono ?_
      rintro e w2 ⟨rfl, rfl⟩
      go_wp2_with fail
      refine (rnew_bad n' me' p' _ HM.out p1.1).mono ?_
      rintro e w2 ⟨rfl, rfl⟩
      go_wp2_with fail
      go_ret
      exact ⟨rfl, hb1⟩
    | true =>
      have HM := hide hm
      clear hm
      go_wp2_with fail
      refine (own_new n' me' p' w _ HM.out hb1).mono ?_
      rintro e w2 ⟨b, rfl, h2⟩
      clear hb1
      go_wp2_with fail
      refine (rnew_ok n' me' p' _ HM.out).mono ?_
      rintro e w3 ⟨rfl, hr, hg3, hz3⟩
      have T3 : Two w w3 b w2.heap.size (BSt.init n' me' p') := ⟨h2.bel.trans ((grown_none_below hg3).mono h2.bel.size), h2.bt.keep hg3 (by simp), hr, h2.ok, h2.ge, h2.bel.size, by have := h2.bt.lt; omega⟩
      obtain ⟨x, hx⟩ : ∃ x : Nat, x = w2.heap.size := ⟨_, rfl⟩
      rw [← hx] at T3 ⊢
      have H3 := hide T3
      clear T3 h2 hr hg3 hz3 hx
      go_wp2_with fail
      go_loopg [15] 41 (fun mm i wr => ∃ k : Nat, ∃ s : BSt, i = .int .i64 k ∧ k ≤ 40 ∧ k ≤ len ∧ mm = 41 - k ∧ Two w wr b x s)
      case atStart => exact ⟨0, _, rfl, by omega, by omega, by omega, H3.out⟩
      case round =>
        obtain ⟨i, s, rfl, hi, hil, rfl, ht⟩ := hrel
        have HT := hide ht
        clear ht
        by_cases hlt : i < len ∧ i < 40
        · obtain ⟨i1, i2⟩ := hlt
          obtain ⟨ab, ao, hA, hab, k, who, nn, now, MA, mn, mc, ml, nr, hd⟩ := HD.out i i1
          subst hA
          have HDD := hide hd
          clear hd
          have j1 : (i : Int) < len := by omega
          have j2 : (i : Int) < 40 := by omega
          go_upto_block 1 with fail
          rename_i K1 hK1
          refine wp_block_then ?_
          refine roundP w wr b x i len c ab ao mn mc MA k who nn now ml nr s i1 i2 hl hab HDD.out HT.out K1 _ ?_
          intro v10 v16 v17 v18 v19 v20 v21 v22 v80 v81 v82 v83 v84 v85 v86 v87 v88 v89 v90 v91 v92 v93 v94 v95 v96 v97 v98 v99 v100 v101 v102 v103 v104 v105 v106 v107 v108 v109 v110 v111 v112 v113 v114 v115 v116 v117 v118 v119 v120 v121 v122 v123 v124 v125 v126 v127 v128 v129 v130 v131 v132 v133 v134 v135 v136 v137 v138 v139 v140 v141 v142 v143 v144 v145 v146 v147 v148 v149 v150 v151 v152 v153 v154 v155 v156 v157 v158 v159 v160 v161 v162 v163 v164 v165 v166 v167 v168 v169 v170 v171 v172 v173 v174 v175 v176 v177 v178 v179 v180 v181 v182 v183 v184 v185 v186 v187 v188 v189 v190 v191 v192 v193 v194 v195 v196 v197 v198 v199 v200 v201 v202 v203 v204 v205 v206 v207 v208 v209 v210 v211 v212 v213 v214 v215 v216 v217 v218 v219 v220 v221 v222 v223 v224 v225 wx s' tz
          have TZ := hide tz
          clear tz
          refine hK1 _ _ ?_
          go_wp2_with fail
          go_roundg (41 - (i + 1))
          case measure => omega
          case rel => exact ⟨i + 1, s', by go_num, by omega, by omega, rfl, TZ.out⟩
        · by_cases j1 : (i : Int) < len
          · have j2 : (40 : Int) ≤ i := by omega
            go_wp2_with fail
            go_ret
            exact ⟨rfl, HT.out.bel⟩
          · have j2 : (len : Int) ≤ i := by omega
            go_wp2_with fail
            go_ret
            exact ⟨rfl, HT.out.bel⟩

end Go.Proofs.Ytonjpdidbgicgaa
