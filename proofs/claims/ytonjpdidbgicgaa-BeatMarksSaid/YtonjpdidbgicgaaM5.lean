/-
  Chapter 19: BeatMarks: the middle of a round.
-/
import Derived.Test.YtonjpdidbgicgaaM4
import Derived.Deep.RegionHeld3
namespace Go.Proofs.Ytonjpdidbgicgaa
open Go.RowKit
set_option linter.unusedVariables false

theorem grown_set (w : World) (p : Addr) (u : Value) : w.grownBy (w.setCell p u) (some p.block) :=
  ⟨rfl, rfl, rfl, by simp [World.setCell], fun i hi hne => Below.heap_setCell w p u i (fun e => hne (by rw [e]))⟩

theorem own_drewN {w : World} {base e size n : Nat} {v : Value} {xs : List Value} (h : w.ownsRow base e size v n xs) (k : Nat) : (w.drewN k).ownsRow base e size v n xs := h

theorem cntO_le (L : List (Int × Int)) (o k : Nat) : cntO L o k ≤ L.length := by
  unfold cntO
  exact Nat.le_trans (List.length_filter_le _ _) (by rw [List.length_take]; omega)

theorem mark_end (s : BSt) (l : List Int) (hn : s.n = 3) (hk : s.Ok) (h200 : ∀ k, l.getD k 0 ≤ 200) (a : Nat → Int)
    (h : ∀ o, 1 ≤ o → o ≤ 3 → a o = s.mrk o + cntO (takeL s l (ownB s l)) o (takeL s l (ownB s l)).length) :
    (∀ o, 1 ≤ o → o ≤ 3 → a o = (takeS s l (ownB s l)).mrk o) ∧
    ∀ o, 1 ≤ o → o ≤ 3 → o ≤ l.length → l.getD (o - 1) 0 ≤ a o ∨ 64 ≤ (takeL s l (ownB s l)).length := by
  have e3 : s.n.toNat = 3 := by omega
  refine ⟨fun o h1 h3 => ?_, fun o h1 h3 hl => ?_⟩
  · rw [h o h1 h3, cntO_full]
    simp only [takeS]
    by_cases c : 1 ≤ o ∧ o ≤ ownB s l
    · rw [if_pos c, if_pos c]
    · rw [if_neg c, if_neg c]; simp
  · have hc := cntO_le (takeL s l (ownB s l)) o (takeL s l (ownB s l)).length
    have ha := h o h1 h3
    rw [cntO_full, if_pos ⟨h1, by unfold ownB; omega⟩] at hc ha
    have m0 := hk.mk0 o
    have h2 := h200 (o - 1)
    unfold cntB at hc ha
    generalize l.getD (o - 1) 0 = mx at *
    omega

noncomputable def mMidCode : Code := codeAt ((Try.f7.body).getD .skip) [1, 1, 1, 1, 1, 1, 0, 1, 0, 0, 1, 0, 0, 1, 1]
set_option maxRecDepth 100000 in
set_option maxHeartbeats 20000000 in
theorem mMid {c0 c1 c2 c3 c5 c7 c9 c10 c11 c12 c13 c14 c15 c16 c17 c18 c19 c20 c21 c22 c23 c24 c25 c26 c27 c28 c29 c30 c31 c32 c33 c34 c35 c36 c37 c38 c39 c40 c41 c42 c43 c44 c45 c46 c47 c48 c49 c50 c51 c52 c53 c54 c55 c56 c57 c58 c59 c60 c61 c62 c63 c64 c65 c66 c67 c68 c69 c70 c71 c72 c73 c74 c75 c76 c77 c78 c79 c80 c81 c82 c83 c84 c85 c86 c87 c88 c89 c90 c91 c92 c93 c94 c95 c96 c97 c98 c99 c100 c101 c102 c103 c104 c105 c106 c107 c108 c109 c110 c111 c112 c113 c114 c115 c116 c117 c118 c119 c120 c121 c122 c123 c124 c125 c126 c127 c128 c129 c130 c131 c132 c133 c134 c135 c136 c137 c138 c139 c140 c141 c142 c143 c144 c145 c146 c147 c148 c149 c150 c151 c152 c153 c154 c155 c156 c157 c158 c159 c160 c161 c162 c163 c164 c165 c166 c167 c168 c169 c170 c171 c172 c173 c174 c175 c176 : Value} (w wq : World) (b ga n cA B : Nat) (A : Option Addr) (s : BSt) (a : Nat → Int) (l : List Int) (hn5 : n ≤ 5) (hln : l.length = n) (h200 : ∀ k, 0 ≤ l.getD k 0 ∧ l.getD k 0 ≤ 200)
    (hP : MW w wq b ga s a) (hn : s.n = 3) (ha : ∀ o, 1 ≤ o → o ≤ 3 → a o = s.mrk o) (hO : wq.ownsRow B 3 1 (.slice A n cA) n (ints l)) (hB1 : b < B) (hB2 : ga < B) (K : Act → World → Prop) (Q : Exit → Act → World → Prop)
    (hK : ∀ (u2 u10 u11 u12 u13 u14 u63 u64 u65 u66 u67 u68 u69 u70 u71 u72 u73 u74 u75 u76 u77 u78 u79 u80 u81 u82 u83 u84 u85 u86 u87 u88 u89 u90 u91 u92 u93 u94 u95 u96 u97 u98 u99 u100 u101 u102 u103 u104 u105 u106 u107 u108 u109 u110 u111 u112 u113 u114 u115 u116 u117 u118 u119 u120 u121 u122 u123 u124 u125 u126 u127 u128 u129 u130 u131 u132 u133 u134 u135 u136 u137 u138 u139 u140 u141 u142 u143 u144 u145 u146 u147 u148 u149 u150 u151 u152 u153 u154 u155 u156 u157 u158 u159 u160 u161 u162 u163 u164 u165 u166 u167 u168 u169 u170 u171 u172 u173 u174 u175 : Value) (wx : World) (s' : BSt) (a' : Nat → Int), MW w wx b ga s' a' → s'.n = 3 → (∀ o, 1 ≤ o → o ≤ 3 → a' o = s'.mrk o) → K ⟨#[c0, c1, u2, c3, .pointer (some ⟨b, 0, none⟩), c5, .pointer (some ⟨ga, 0, none⟩), c7, .slice A n cA, c9, u10, u11, u12, u13, u14, c15, c16, c17, c18, c19, c20, c21, c22, c23, c24, c25, c26, c27, c28, c29, c30, c31, c32, c33, c34, c35, c36, c37, c38, c39, c40, c41, c42, c43, c44, c45, c46, c47, c48, c49, c50, c51, c52, c53, c54, c55, c56, c57, c58, c59, c60, c61, c62, u63, u64, u65, u66, u67, u68, u69, u70, u71, u72, u73, u74, u75, u76, u77, u78, u79, u80, u81, u82, u83, u84, u85, u86, u87, u88, u89, u90, u91, u92, u93, u94, u95, u96, u97, u98, u99, u100, u101, u102, u103, u104, u105, u106, u107, u108, u109, u110, u111, u112, u113, u114, u115, u116, u117, u118, u119, u120, u121, u122, u123, u124, u125, u126, u127, u128, u129, u130, u131, u132, u133, u134, u135, u136, u137, u138, u139, u140, u141, u142, u143, u144, u145, u146, u147, u148, u149, u150, u151, u152, u153, u154, u155, u156, u157, u158, u159, u160, u161, u162, u163, u164, u165, u166, u167, u168, u169, u170, u171, u172, u173, u174, u175, c176], []⟩ wx) :
    mMidCode.wp Try.prog (Exit.then K Q) ⟨#[c0, c1, c2, c3, .pointer (some ⟨b, 0, none⟩), c5, .pointer (some ⟨ga, 0, none⟩), c7, .slice A n cA, c9, c10, c11, c12, c13, c14, c15, c16, c17, c18, c19, c20, c21, c22, c23, c24, c25, c26, c27, c28, c29, c30, c31, c32, c33, c34, c35, c36, c37, c38, c39, c40, c41, c42, c43, c44, c45, c46, c47, c48, c49, c50, c51, c52, c53, c54, c55, c56, c57, c58, c59, c60, c61, c62, c63, c64, c65, c66, c67, c68, c69, c70, c71, c72, c73, c74, c75, c76, c77, c78, c79, c80, c81, c82, c83, c84, c85, c86, c87, c88, c89, c90, c91, c92, c93, c94, c95, c96, c97, c98, c99, c100, c101, c102, c103, c104, c105, c106, c107, c108, c109, c110, c111, c112, c113, c114, c115, c116, c117, c118, c119, c120, c121, c122, c123, c124, c125, c126, c127, c128, c129, c130, c131, c132, c133, c134, c135, c136, c137, c138, c139, c140, c141, c142, c143, c144, c145, c146, c147, c148, c149, c150, c151, c152, c153, c154, c155, c156, c157, c158, c159, c160, c161, c162, c163, c164, c165, c166, c167, c168, c169, c170, c171, c172, c173, c174, c175, c176], []⟩ wq := by
  have hgaq := hP.row.lt
  have hbq := hP.own.bt.lt
  have hok := hP.own.ok
  have HK := hide hK
  have HP := hide hP
  have HA := hide ha
  have HO := hide hO
  have HN := hide hn
  have H0 := hide hok.mk0
  have H200 := hide (fun k => (h200 k).2)
  clear hK hP ha hO
  conv => arg 2; whnf
  go_wp2_with fail
  refine (own_take w wq b s A n cA l HP.out.own (Reads.of_own HO.out) (fun ad e => by subst e; have := HO.out.lt ad.block rfl; omega) (by omega)).mono ?_
  rintro e w1 ⟨v, rfl, hv, hg1, ho1⟩
  have hP1 := HP.out.only hg1 ho1
  have hO1 := HO.out.kept hg1 (own_not HO.out hB1)
  obtain ⟨KK, hKK⟩ : ∃ KK, KK = ownB s l := ⟨_, rfl⟩
  have hK3 : KK ≤ 3 ∧ KK ≤ n := by rw [hKK]; unfold ownB; omega
  rw [← hKK] at hv ho1 hP1
  obtain ⟨L, hL⟩ : ∃ L, L = takeL s l KK := ⟨_, rfl⟩
  have hnew : ∀ k (hk : k < L.length), NewOk s l KK L k L[k] := by subst hL; exact fun k hk => new_ok_at s l hok.mk0 KK k hk
  have hT : L.length ≤ 192 := by rw [hL]; have := takeL_length_le s l KK; omega
  have hend := mark_end s l hn hok (fun k => (h200 k).2)
  rw [← hKK, ← hL] at hend
  rw [← hL] at hv
  obtain ⟨T, hTL⟩ : ∃ T, T = L.length := ⟨_, rfl⟩
  rw [← hTL] at hv hT hend
  obtain ⟨AB, cB, rfl⟩ : ∃ AB cB, v = .slice AB T cB := by
    rcases hv.2 with ⟨rfl, h0⟩ | ⟨g, cap, cur, rfl, _⟩
    · exact ⟨_, _, by rw [h0]⟩
    · exact ⟨_, _, rfl⟩
  have hC : ∀ k, k < T → ∀ W : World, W.ownsRow wq.heap.size 53 2 (.slice AB T cB) T (idCells L) → ∃ p : Int × Int, L[k]? = some p ∧ ∃ g, AB = some ⟨g, 0, none⟩ ∧ W.cell? ⟨g, k * 2, none⟩ = some (.int .i64 p.1) ∧ W.cell? ⟨g, k * 2 + 1, none⟩ = some (.int .i64 p.2) := by
    intro k hk W hW
    obtain ⟨g, cap, e, _, _⟩ := hW.form (by omega)
    injection e with e1 e2 e3
    subst e1
    refine ⟨L[k]'(by omega), List.getElem?_eq_getElem (by omega), g, rfl, ?_, ?_⟩
    · exact (hW.cellAt (k * 2) (by omega)).trans (idCells_get0 L k (by omega))
    · exact (hW.cellAt (k * 2 + 1) (by omega)).trans (idCells_get1 L k (by omega))
  have hM : ∀ k, k < n → ∀ W : World, W.ownsRow B 3 1 (.slice A n cA) n (ints l) → ∃ gm, A = some ⟨gm, 0, none⟩ ∧ W.cell? ⟨gm, k, none⟩ = some (.int .i64 (l.getD k 0)) := by
    intro k hk W hW
    obtain ⟨g, cap, e, _, _⟩ := hW.form (by omega)
    injection e with e1 e2 e3
    subst e1
    refine ⟨g, rfl, ?_⟩
    exact (hW.cellAt k (by omega)).trans (by simp [ints, List.getD, show k < l.length by omega])
  have HC := hide hC
  have HM := hide hM
  have HNW := hide hnew
  have HE := hide hend
  have HT := hide hTL
  have P1 := hide hP1
  have O1 := hide hO1
  have V1 := hide hv
  clear hC hM hnew hend hTL hP1 hO1 hv ho1 hg1 hL hKK
  go_upto_block 4 with fail
  rename_i K4 hK4
  have HK4 := hide hK4
  clear hK4
  refine wp_block_then ?_
  have mstep : ∀ (aa : Nat → Int) (k o : Nat) (x : Int) (hk : k < T), (L[k]'(by have := HT.out; omega)).1 = (o : Int) → x = aa o + 1 → (∀ o, 1 ≤ o → o ≤ 3 → aa o = s.mrk o + cntO L o k) → ∀ o', 1 ≤ o' → o' ≤ 3 → upd aa o x o' = s.mrk o' + cntO L o' (k + 1) := by
    intro aa k o x hk h1 hx h o' h2 h3
    rw [cntO_succ L o' k (by have := HT.out; omega)]
    have := h o' h2 h3
    unfold upd
    by_cases e : o' = o
    · subst e
      rw [if_pos rfl, if_pos h1]
      omega
    · rw [if_neg e, if_neg (by omega)]
      omega
  have MS := hide mstep
  clear mstep
  go_loopg [11] (T + 1) (fun q i wr => ∃ k : Nat, i = .int .i64 k ∧ k ≤ T ∧ q = T + 1 - k ∧ ∃ aa, MW w wr b ga (takeS s l KK) aa ∧ (∀ o, 1 ≤ o → o ≤ 3 → aa o = s.mrk o + cntO L o k) ∧ wr.ownsRow B 3 1 (.slice A n cA) n (ints l) ∧ wr.ownsRow wq.heap.size 53 2 (.slice AB T cB) T (idCells L))
  case atStart => exact ⟨0, rfl, by omega, by omega, a, P1.out, fun o h1 h3 => by rw [HA.out o h1 h3, cntO_zero]; simp, O1.out, V1.out⟩
  case round =>
    obtain ⟨k, rfl, hk, rfl, aa, H1, haa, hon, ho2⟩ := hrel
    by_cases hlt : k < T
    · have k1 : (k : Int) < T := by omega
      obtain ⟨p, hp, g, hAB, c0, c1⟩ := HC.out k hlt wr ho2
      subst hAB
      have hpe : L[k]'(by have := HT.out; omega) = p := by
        have := List.getElem?_eq_getElem (l := L) (i := k) (by have := HT.out; omega)
        rw [this] at hp
        exact Option.some.inj hp
      have hw := HNW.out k (by have := HT.out; omega)
      rw [hpe] at hw
      have hm1 := MS.out aa k
      obtain ⟨o, x⟩ := p
      have w1 := hw.o1
      have w2 := hw.oK
      have hnum := hw.num
      have hle := hw.le
      have hord := hw.ord
      clear hw
      simp only at w1 w2 hnum hle c0 c1 hord
      obtain rfl | rfl | rfl : o = 1 ∨ o = 2 ∨ o = 3 := by omega
      · have a1 := H1.cell (j := 1) (by omega)
        have fr := H1.free 1
        have t4 : 0 < n := by omega
        have t5 : (0 : Int) < n := by omega
        obtain ⟨gm, hA, cm⟩ := HM.out 0 t4 wr hon
        subst hA
        have hx1 : x = aa 1 + 1 := by rw [haa 1 (by omega) (by omega)]; exact hnum
        have hx2 : x ≤ l.getD 0 0 := hle
        have hx3 := H200.out 0
        have hy0 : 0 ≤ aa 1 := by rw [haa 1 (by omega) (by omega)]; have := H0.out 1; omega
        have hfin := MS.out aa k 1 x hlt (by rw [hpe]; rfl) hx1 haa
        obtain ⟨y, hy⟩ : ∃ y, y = aa 1 := ⟨_, rfl⟩
        obtain ⟨mv, hmv⟩ : ∃ mv, mv = l.getD 0 0 := ⟨_, rfl⟩
        rw [← hy] at a1 hx1 hy0
        rw [← hmv] at cm hx2 hx3
        have ws : IntKind.i64.wrap (y + 1) = x := by rw [hx1]; exact IntWalk.i64_in _ (by omega)
        have t1 : decide ((n : Int) < 1) = false := decide_eq_false (by omega)
        have t2 : (x != x) = false := by simp
        have t3 : decide (mv < x) = false := decide_eq_false (by omega)
        have z0 : IntKind.i64.wrap 0 = 0 := by decide
        have z1 : IntKind.i64.wrap 1 = 1 := by decide
        have z2 : IntKind.i64.wrap 2 = 2 := by decide
        have la := World.block_lt_of_cell? _ _ a1
        have lm := World.block_lt_of_cell? _ _ cm
        have lg := World.block_lt_of_cell? _ _ c0
        have HF := hide hfin
        have HH1 := hide H1
        have HO1 := hide hon
        have HO2 := hide ho2
        clear hy hmv hx1 hx2 hx3 hy0 H1 hon ho2 haa hnum hle hfin w1 w2 hpe hp
        rcases Nat.eq_zero_or_pos k with rfl | hk0
        · clear hord
          go_wp2_with fail
          go_quiet (fail)
          go_wp2_with fail
          have hg := (grown_set (wr.drewN nq) ⟨ga, 1, none⟩ (.int .i64 x))
          go_roundg (T + 1 - (0 + 1))
          case measure => omega
          case rel => exact ⟨1, by simp, by omega, rfl, _, (HH1.out.drewN nq).store 1 x, HF.out, (own_drewN HO1.out nq).kept hg (own_not HO1.out hB2), (own_drewN HO2.out nq).kept hg (own_not HO2.out hgaq)⟩
        · obtain ⟨j, hj⟩ : ∃ j, k = j + 1 := ⟨k - 1, by omega⟩
          have j2 : j < T := by omega
          have j1 : (j : Int) < T := by omega
          have k0 : 0 < (k : Int) := by omega
          have wj : IntKind.i64.wrap ((k : Int) - 1) = (j : Int) := by rw [IntWalk.i64_in _ (by omega)]; omega
          obtain ⟨⟨q1, q2⟩, hq, g', hg', d0, d1⟩ := HC.out j j2 wr HO2.out
          injection hg' with hg'
          injection hg' with hg'
          subst hg'
          have hr0 : ordZ (q1, q2) (1, x) < 0 := ordZ_lt (hord (q1, q2) hk0 (by rw [hj]; simpa using hq))
          obtain ⟨r, hr⟩ : ∃ r, r = ordZ (q1, q2) (1, x) := ⟨_, rfl⟩
          have hor : ∀ W : World, Calls Try.prog 22 #[.agg #[.int .i64 q1, .int .i64 q2], .agg #[.int .i64 1, .int .i64 x]] W fun e w' => e = .returned (.int .i64 r) ∧ Below W.heap.size W w' := fun W => by rw [hr]; exact order_any q1 q2 1 x W
          rw [← hr] at hr0
          have r1 : decide (0 ≤ r) = false := decide_eq_false (by omega)
          have HJ := hide hj
          clear hr hord hq hj
          simp only at d0 d1
          go_wp2_with fail
          go_region_held3 (fun w' => w'.cell? ⟨g, k * 2, none⟩ = some (.int .i64 1) ∧ w'.cell? ⟨g, k * 2 + 1, none⟩ = some (.int .i64 x) ∧ w'.cell? ⟨g, j * 2, none⟩ = some (.int .i64 q1) ∧ w'.cell? ⟨g, j * 2 + 1, none⟩ = some (.int .i64 q2) ∧ w'.cell? ⟨ga, 1, none⟩ = some (.int .i64 y) ∧ w'.cell? ⟨gm, 0, none⟩ = some (.int .i64 mv)) (first | exact ⟨c0, c1, d0, d1, a1, cm⟩ | exact ⟨e0, e1, f0, f1, b1, bm⟩)
            ((go_at_call 22; refine (hor _).mono ?_; rintro e w4 ⟨rfl, hb4⟩; have e0 := (hb4.cell (p := ⟨g, k * 2, none⟩) lg).trans c0; have e1 := (hb4.cell (p := ⟨g, k * 2 + 1, none⟩) lg).trans c1; have f0 := (hb4.cell (p := ⟨g, j * 2, none⟩) lg).trans d0; have f1 := (hb4.cell (p := ⟨g, j * 2 + 1, none⟩) lg).trans d1; have b1 := (hb4.cell (p := ⟨ga, 1, none⟩) la).trans a1; have bm := (hb4.cell (p := ⟨gm, 0, none⟩) lm).trans cm))
          have h4 := HH1.out.drew.below hb4
          have fr4 := h4.free 1
          have HH4 := hide h4
          have B4 := hide hb4
          clear h4 hb4
          go_wp2_with fail
          have hg := (grown_set w4 ⟨ga, 1, none⟩ (.int .i64 x))
          go_roundg (T + 1 - (k + 1))
          case measure => omega
          case rel => exact ⟨k + 1, by go_num, by omega, rfl, _, HH4.out.store 1 x, HF.out, ((own_drewN HO1.out 1).kept (below_grown_none B4.out) (.inr (by simp [Value.ownBlock]))).kept hg (own_not HO1.out hB2), ((own_drewN HO2.out 1).kept (below_grown_none B4.out) (.inr (by simp [Value.ownBlock]))).kept hg (own_not HO2.out hgaq)⟩
      · have a1 := H1.cell (j := 2) (by omega)
        have fr := H1.free 2
        have t4 : 1 < n := by omega
        have t5 : (1 : Int) < n := by omega
        obtain ⟨gm, hA, cm⟩ := HM.out 1 t4 wr hon
        subst hA
        have hx1 : x = aa 2 + 1 := by rw [haa 2 (by omega) (by omega)]; exact hnum
        have hx2 : x ≤ l.getD 1 0 := hle
        have hx3 := H200.out 1
        have hy0 : 0 ≤ aa 2 := by rw [haa 2 (by omega) (by omega)]; have := H0.out 2; omega
        have hfin := MS.out aa k 2 x hlt (by rw [hpe]; rfl) hx1 haa
        obtain ⟨y, hy⟩ : ∃ y, y = aa 2 := ⟨_, rfl⟩
        obtain ⟨mv, hmv⟩ : ∃ mv, mv = l.getD 1 0 := ⟨_, rfl⟩
        rw [← hy] at a1 hx1 hy0
        rw [← hmv] at cm hx2 hx3
        have ws : IntKind.i64.wrap (y + 1) = x := by rw [hx1]; exact IntWalk.i64_in _ (by omega)
        have t1 : decide ((n : Int) < 2) = false := decide_eq_false (by omega)
        have t2 : (x != x) = false := by simp
        have t3 : decide (mv < x) = false := decide_eq_false (by omega)
        have z0 : IntKind.i64.wrap 0 = 0 := by decide
        have z1 : IntKind.i64.wrap 1 = 1 := by decide
        have z2 : IntKind.i64.wrap 2 = 2 := by decide
        have la := World.block_lt_of_cell? _ _ a1
        have lm := World.block_lt_of_cell? _ _ cm
        have lg := World.block_lt_of_cell? _ _ c0
        have HF := hide hfin
        have HH1 := hide H1
        have HO1 := hide hon
        have HO2 := hide ho2
        clear hy hmv hx1 hx2 hx3 hy0 H1 hon ho2 haa hnum hle hfin w1 w2 hpe hp
        rcases Nat.eq_zero_or_pos k with rfl | hk0
        · clear hord
          go_wp2_with fail
          go_quiet (fail)
          go_wp2_with fail
          have hg := (grown_set (wr.drewN nq) ⟨ga, 2, none⟩ (.int .i64 x))
          go_roundg (T + 1 - (0 + 1))
          case measure => omega
          case rel => exact ⟨1, by simp, by omega, rfl, _, (HH1.out.drewN nq).store 2 x, HF.out, (own_drewN HO1.out nq).kept hg (own_not HO1.out hB2), (own_drewN HO2.out nq).kept hg (own_not HO2.out hgaq)⟩
        · obtain ⟨j, hj⟩ : ∃ j, k = j + 1 := ⟨k - 1, by omega⟩
          have j2 : j < T := by omega
          have j1 : (j : Int) < T := by omega
          have k0 : 0 < (k : Int) := by omega
          have wj : IntKind.i64.wrap ((k : Int) - 1) = (j : Int) := by rw [IntWalk.i64_in _ (by omega)]; omega
          obtain ⟨⟨q1, q2⟩, hq, g', hg', d0, d1⟩ := HC.out j j2 wr HO2.out
          injection hg' with hg'
          injection hg' with hg'
          subst hg'
          have hr0 : ordZ (q1, q2) (2, x) < 0 := ordZ_lt (hord (q1, q2) hk0 (by rw [hj]; simpa using hq))
          obtain ⟨r, hr⟩ : ∃ r, r = ordZ (q1, q2) (2, x) := ⟨_, rfl⟩
          have hor : ∀ W : World, Calls Try.prog 22 #[.agg #[.int .i64 q1, .int .i64 q2], .agg #[.int .i64 2, .int .i64 x]] W fun e w' => e = .returned (.int .i64 r) ∧ Below W.heap.size W w' := fun W => by rw [hr]; exact order_any q1 q2 2 x W
          rw [← hr] at hr0
          have r1 : decide (0 ≤ r) = false := decide_eq_false (by omega)
          have HJ := hide hj
          clear hr hord hq hj
          simp only at d0 d1
          go_wp2_with fail
          go_region_held3 (fun w' => w'.cell? ⟨g, k * 2, none⟩ = some (.int .i64 2) ∧ w'.cell? ⟨g, k * 2 + 1, none⟩ = some (.int .i64 x) ∧ w'.cell? ⟨g, j * 2, none⟩ = some (.int .i64 q1) ∧ w'.cell? ⟨g, j * 2 + 1, none⟩ = some (.int .i64 q2) ∧ w'.cell? ⟨ga, 2, none⟩ = some (.int .i64 y) ∧ w'.cell? ⟨gm, 1, none⟩ = some (.int .i64 mv)) (first | exact ⟨c0, c1, d0, d1, a1, cm⟩ | exact ⟨e0, e1, f0, f1, b1, bm⟩)
            ((go_at_call 22; refine (hor _).mono ?_; rintro e w4 ⟨rfl, hb4⟩; have e0 := (hb4.cell (p := ⟨g, k * 2, none⟩) lg).trans c0; have e1 := (hb4.cell (p := ⟨g, k * 2 + 1, none⟩) lg).trans c1; have f0 := (hb4.cell (p := ⟨g, j * 2, none⟩) lg).trans d0; have f1 := (hb4.cell (p := ⟨g, j * 2 + 1, none⟩) lg).trans d1; have b1 := (hb4.cell (p := ⟨ga, 2, none⟩) la).trans a1; have bm := (hb4.cell (p := ⟨gm, 1, none⟩) lm).trans cm))
          have h4 := HH1.out.drew.below hb4
          have fr4 := h4.free 2
          have HH4 := hide h4
          have B4 := hide hb4
          clear h4 hb4
          go_wp2_with fail
          have hg := (grown_set w4 ⟨ga, 2, none⟩ (.int .i64 x))
          go_roundg (T + 1 - (k + 1))
          case measure => omega
          case rel => exact ⟨k + 1, by go_num, by omega, rfl, _, HH4.out.store 2 x, HF.out, ((own_drewN HO1.out 1).kept (below_grown_none B4.out) (.inr (by simp [Value.ownBlock]))).kept hg (own_not HO1.out hB2), ((own_drewN HO2.out 1).kept (below_grown_none B4.out) (.inr (by simp [Value.ownBlock]))).kept hg (own_not HO2.out hgaq)⟩
      · have a1 := H1.cell (j := 3) (by omega)
        have fr := H1.free 3
        have t4 : 2 < n := by omega
        have t5 : (2 : Int) < n := by omega
        obtain ⟨gm, hA, cm⟩ := HM.out 2 t4 wr hon
        subst hA
        have hx1 : x = aa 3 + 1 := by rw [haa 3 (by omega) (by omega)]; exact hnum
        have hx2 : x ≤ l.getD 2 0 := hle
        have hx3 := H200.out 2
        have hy0 : 0 ≤ aa 3 := by rw [haa 3 (by omega) (by omega)]; have := H0.out 3; omega
        have hfin := MS.out aa k 3 x hlt (by rw [hpe]; rfl) hx1 haa
        obtain ⟨y, hy⟩ : ∃ y, y = aa 3 := ⟨_, rfl⟩
        obtain ⟨mv, hmv⟩ : ∃ mv, mv = l.getD 2 0 := ⟨_, rfl⟩
        rw [← hy] at a1 hx1 hy0
        rw [← hmv] at cm hx2 hx3
        have ws : IntKind.i64.wrap (y + 1) = x := by rw [hx1]; exact IntWalk.i64_in _ (by omega)
        have t1 : decide ((n : Int) < 3) = false := decide_eq_false (by omega)
        have t2 : (x != x) = false := by simp
        have t3 : decide (mv < x) = false := decide_eq_false (by omega)
        have z0 : IntKind.i64.wrap 0 = 0 := by decide
        have z1 : IntKind.i64.wrap 1 = 1 := by decide
        have z2 : IntKind.i64.wrap 2 = 2 := by decide
        have la := World.block_lt_of_cell? _ _ a1
        have lm := World.block_lt_of_cell? _ _ cm
        have lg := World.block_lt_of_cell? _ _ c0
        have HF := hide hfin
        have HH1 := hide H1
        have HO1 := hide hon
        have HO2 := hide ho2
        clear hy hmv hx1 hx2 hx3 hy0 H1 hon ho2 haa hnum hle hfin w1 w2 hpe hp
        rcases Nat.eq_zero_or_pos k with rfl | hk0
        · clear hord
          go_wp2_with fail
          go_quiet (fail)
          go_wp2_with fail
          have hg := (grown_set (wr.drewN nq) ⟨ga, 3, none⟩ (.int .i64 x))
          go_roundg (T + 1 - (0 + 1))
          case measure => omega
          case rel => exact ⟨1, by simp, by omega, rfl, _, (HH1.out.drewN nq).store 3 x, HF.out, (own_drewN HO1.out nq).kept hg (own_not HO1.out hB2), (own_drewN HO2.out nq).kept hg (own_not HO2.out hgaq)⟩
        · obtain ⟨j, hj⟩ : ∃ j, k = j + 1 := ⟨k - 1, by omega⟩
          have j2 : j < T := by omega
          have j1 : (j : Int) < T := by omega
          have k0 : 0 < (k : Int) := by omega
          have wj : IntKind.i64.wrap ((k : Int) - 1) = (j : Int) := by rw [IntWalk.i64_in _ (by omega)]; omega
          obtain ⟨⟨q1, q2⟩, hq, g', hg', d0, d1⟩ := HC.out j j2 wr HO2.out
          injection hg' with hg'
          injection hg' with hg'
          subst hg'
          have hr0 : ordZ (q1, q2) (3, x) < 0 := ordZ_lt (hord (q1, q2) hk0 (by rw [hj]; simpa using hq))
          obtain ⟨r, hr⟩ : ∃ r, r = ordZ (q1, q2) (3, x) := ⟨_, rfl⟩
          have hor : ∀ W : World, Calls Try.prog 22 #[.agg #[.int .i64 q1, .int .i64 q2], .agg #[.int .i64 3, .int .i64 x]] W fun e w' => e = .returned (.int .i64 r) ∧ Below W.heap.size W w' := fun W => by rw [hr]; exact order_any q1 q2 3 x W
          rw [← hr] at hr0
          have r1 : decide (0 ≤ r) = false := decide_eq_false (by omega)
          have HJ := hide hj
          clear hr hord hq hj
          simp only at d0 d1
          go_wp2_with fail
          go_region_held3 (fun w' => w'.cell? ⟨g, k * 2, none⟩ = some (.int .i64 3) ∧ w'.cell? ⟨g, k * 2 + 1, none⟩ = some (.int .i64 x) ∧ w'.cell? ⟨g, j * 2, none⟩ = some (.int .i64 q1) ∧ w'.cell? ⟨g, j * 2 + 1, none⟩ = some (.int .i64 q2) ∧ w'.cell? ⟨ga, 3, none⟩ = some (.int .i64 y) ∧ w'.cell? ⟨gm, 2, none⟩ = some (.int .i64 mv)) (first | exact ⟨c0, c1, d0, d1, a1, cm⟩ | exact ⟨e0, e1, f0, f1, b1, bm⟩)
            ((go_at_call 22; refine (hor _).mono ?_; rintro e w4 ⟨rfl, hb4⟩; have e0 := (hb4.cell (p := ⟨g, k * 2, none⟩) lg).trans c0; have e1 := (hb4.cell (p := ⟨g, k * 2 + 1, none⟩) lg).trans c1; have f0 := (hb4.cell (p := ⟨g, j * 2, none⟩) lg).trans d0; have f1 := (hb4.cell (p := ⟨g, j * 2 + 1, none⟩) lg).trans d1; have b1 := (hb4.cell (p := ⟨ga, 3, none⟩) la).trans a1; have bm := (hb4.cell (p := ⟨gm, 2, none⟩) lm).trans cm))
          have h4 := HH1.out.drew.below hb4
          have fr4 := h4.free 3
          have HH4 := hide h4
          have B4 := hide hb4
          clear h4 hb4
          go_wp2_with fail
          have hg := (grown_set w4 ⟨ga, 3, none⟩ (.int .i64 x))
          go_roundg (T + 1 - (k + 1))
          case measure => omega
          case rel => exact ⟨k + 1, by go_num, by omega, rfl, _, HH4.out.store 3 x, HF.out, ((own_drewN HO1.out 1).kept (below_grown_none B4.out) (.inr (by simp [Value.ownBlock]))).kept hg (own_not HO1.out hB2), ((own_drewN HO2.out 1).kept (below_grown_none B4.out) (.inr (by simp [Value.ownBlock]))).kept hg (own_not HO2.out hgaq)⟩
    · obtain rfl : k = T := by omega
      have k1 : ((k : Int) < k) = False := by simp
      go_wp2_with fail
      refine HK4.out _ _ ?_
      rw [HT.out] at haa
      obtain ⟨he1, he2⟩ := HE.out aa (fun o h1 h3 => by rw [haa o h1 h3, HT.out])
      refine mEnd w wr b ga n k cA cB A AB (takeS s l KK) aa l hn5 (by omega) H1 HN.out he1 (fun k hk => HM.out k hk wr hon) (fun o h1 h3 hl => he2 o h1 h3 (by omega)) K _ ?_
      intro v2 v13 v14 v136 v137 v138 v139 v140 v141 v142 v143 v144 v145 v146 v147 v148 v149 v150 v151 v152 v153 v154 v155 v156 v157 v158 v159 v160 v161 v162 v163 v164 v165 v166 v167 v168 v169 v170 v171 v172 v173 v174 v175 wx hx
      exact HK.out _ _ _ _ _ _ _ _ _ _ _ _ _ _ _ _ _ _ _ _ _ _ _ _ _ _ _ _ _ _ _ _ _ _ _ _ _ _ _ _ _ _ _ _ _ _ _ _ _ _ _ _ _ _ _ _ _ _ _ _ _ _ _ _ _ _ _ _ _ _ _ _ _ _ _ _ _ _ _ _ _ _ _ _ _ _ _ _ _ _ _ _ _ _ _ _ _ _ _ _ _ _ _ _ _ _ _ _ _ _ _ _ _ _ _ _ _ _ _ _ _ _ hx HN.out he1

end Go.Proofs.Ytonjpdidbgicgaa
