/-
  Chapter 21: BagOldest: the law's walk.
-/
import Derived.Test.YtioehmlaaimeaaaQ
import Derived.Deep.RegionLaw
import Derived.Deep.DeepCutAuto
import Derived.Deep.CutBlock
namespace Go.Proofs.Ytioehmlaaimeaaa
open Go.RowKit

theorem u8_at {w : World} {B n k : Nat} {A : Option Addr} {zs : List Int} (h : Reads w B 1 A n (zs.map (.int .u8))) (hk : k < n) :
    ∃ ad, A = some ad ∧ ad.block < B ∧ w.cell? (ad.add k) = some (.int .u8 (zs.getD k 0)) := by
  obtain ⟨ad, u, e, hb, hu, hc⟩ := h.at_ hk
  refine ⟨ad, e, hb, ?_⟩
  rw [hc]
  simp only [List.getElem?_map, Option.map_eq_some_iff] at hu
  obtain ⟨z, hz, rfl⟩ := hu
  simp [List.getD, hz]

/-- Where the least time of the first j stands. -/
def leastN (zs : List Int) : Nat → Nat
  | 0 => 0
  | j + 1 => if zs.getD j 0 < zs.getD (leastN zs j) 0 then j else leastN zs j
theorem leastN_lt (zs : List Int) (j : Nat) (h : 0 < j) : leastN zs j < j := by
  induction j with
  | zero => omega
  | succ j ih =>
    simp only [leastN]
    split
    · omega
    · rcases Nat.eq_zero_or_pos j with rfl | hp
      · simp [leastN]
      · have := ih hp; omega
theorem leastN_one (zs : List Int) : leastN zs 1 = 0 := by
  have := leastN_lt zs 1 (by omega)
  omega
theorem least_old (zs : List Int) (j : Nat) (h : 0 < j) : oldR (fillL zs j) = (itJ zs (leastN zs j), true) := by
  induction j with
  | zero => omega
  | succ j ih =>
    rw [fillL_succ, oldR_snoc]
    rcases Nat.eq_zero_or_pos j with rfl | hp
    · rw [leastN_one]
      rfl
    · rw [ih hp]
      simp only [leastN]
      split
      · rename_i h1
        exact if_pos (by simp [itJ]; simpa [List.getD] using h1)
      · rename_i h1
        exact if_neg (by simp [itJ]; simpa [List.getD] using h1)
/-- The least so far, as the law has it. -/
def leastI (zs : List Int) (j : Nat) : Int := if j = 0 then -1 else (leastN zs j : Nat)

theorem fill_copy (zs : List Int) (M k : Nat) (p : Int) (hM : 0 < M) (h20 : M < 20) (hk : (k : Int) = p % M) (hp : 0 ≤ p) :
    k < M ∧ copyE (fillL zs M) 20 p = 0 ∧ copyL (fillL zs M) 20 p = fillL zs M ++ [itJ zs k] := by
  have hkM : k < M := by
    have : p % (M : Int) < M := Int.emod_lt_of_pos _ (by omega)
    omega
  have hE : pickE (fillL zs M) p = 0 := by
    unfold pickE
    rw [fillL_len, if_neg (by omega), if_neg (by omega)]
  have hN : pickN (fillL zs M) p = k := by
    unfold pickN
    rw [if_pos hE, fillL_len]
    omega
  have hX : itAt (fillL zs M) k = itJ zs k := fillL_at zs M k hkM
  have hP : putE (fillL zs M) 20 (itJ zs k) = 0 := by
    unfold putE
    rw [mayJ, if_pos rfl, fillL_len, if_pos (by omega)]
  refine ⟨hkM, ?_, ?_⟩
  · rw [copyE, if_pos hE, hN, hX, hP]
  · rw [copyL, if_pos hE, hN, hX, putL, if_pos hP]

noncomputable def oldEndCode : Code := codeAt ((Try.f6.body).getD .skip) [1, 1, 1, 1, 1, 1, 1]

set_option maxRecDepth 100000 in
set_option maxHeartbeats 20000000 in
theorem oldEnd {c0 c2 c3 c4 c7 c9 c10 c11 c12 c13 c14 c15 c16 c17 c18 c19 c20 c21 c22 c23 c24 c25 c26 c27 c28 c29 c30 c31 c32 c33 c34 c35 c36 c37 c38 c39 c40 c41 c42 c43 c44 c45 c46 c47 c48 c49 c50 c51 c52 c53 c54 c55 c56 c57 c58 c59 c60 c61 c62 c63 c64 c65 c66 c67 c68 c69 c70 c71 c72 c73 c74 c75 c76 c77 c78 c79 c80 c81 c82 c83 c84 c85 c86 c87 c88 c89 c90 c91 c92 c93 c94 c95 c96 c97 c98 c99 c100 c101 c102 c103 c104 c105 c106 c107 c108 c109 c110 c111 c112 c113 c114 c115 c116 c117 c118 c119 c120 c121 c122 c123 c124 c125 c126 c127 c128 c129 c130 c131 c132 c133 c134 : Value} (w wr : World) (b j : Nat) (p : Int) (zs : List Int) (p1 : 0 ≤ p) (p2 : p ≤ 255) (hj : j ≤ 12) (hB : BB w wr b (fillL zs j) 20 []) :
    oldEndCode.wp Try.prog (bodyPost Try.prog Try.f6 fun e w' => e = .returned (.bool true) ∧ Below w.heap.size w w') ⟨#[c0, .int .u8 p, c2, c3, c4, .bool true, .pointer (some ⟨b, 0, none⟩), c7, .int .i64 (leastI zs j), c9, c10, c11, c12, c13, c14, c15, c16, c17, c18, c19, c20, c21, c22, c23, c24, c25, c26, c27, c28, c29, c30, c31, c32, c33, c34, c35, c36, c37, c38, c39, c40, c41, c42, c43, c44, c45, c46, c47, c48, c49, c50, c51, c52, c53, c54, c55, c56, c57, c58, c59, c60, c61, c62, c63, c64, c65, c66, c67, c68, c69, c70, c71, c72, c73, c74, c75, c76, c77, c78, c79, c80, c81, c82, c83, c84, c85, c86, c87, c88, c89, c90, c91, c92, c93, c94, c95, c96, c97, c98, c99, c100, c101, c102, c103, c104, c105, c106, c107, c108, c109, c110, c111, c112, c113, c114, c115, c116, c117, c118, c119, c120, c121, c122, c123, c124, c125, c126, c127, c128, c129, c130, c131, c132, c133, c134], []⟩ wr := by
  have HB := hide hB
  clear hB
  conv => arg 2; whnf
  rcases Nat.eq_zero_or_pos j with h0 | h0
  · subst h0
    have e1 : fillL zs 0 = [] := rfl
    have e2 : leastI zs 0 = -1 := rfl
    rw [e1] at HB
    go_wp2_with fail
    refine (bw_oldest HB.out (x := It.z) (ok := false) rfl).mono ?_
    rintro e w3 ⟨rfl, h3⟩
    have H3 := hide h3
    clear h3
    go_wp2_with fail
    refine (bw_copy 0 (H3.out.alloc _) (e := 5) (l' := []) rfl rfl).mono ?_
    rintro e w4 ⟨rfl, h4⟩
    have H4 := hide h4
    clear h4
    go_wp2_with fail
    refine (bw_last 0 H4.out (e := 5) (l' := []) rfl rfl).mono ?_
    rintro e w5 ⟨rfl, h5⟩
    have H5 := hide h5
    clear h5
    go_wp2_with fail
    go_ret
    exact ⟨rfl, H5.out.bel⟩
  · obtain ⟨q, hq⟩ : ∃ q, q = leastN zs j := ⟨_, rfl⟩
    have hqj := leastN_lt zs j h0
    rw [← hq] at hqj
    have hl0 : leastI zs j = (q : Int) := by rw [leastI, if_neg (by omega), hq]
    have hO := least_old zs j h0
    rw [← hq] at hO
    obtain ⟨y, hy⟩ : ∃ y, y = zs.getD q 0 := ⟨_, rfl⟩
    have hJ : itJ zs q = ⟨1, 2, byteS q, y⟩ := by rw [itJ, hy]
    rw [hJ] at hO
    have HO := hide hO
    obtain ⟨k, hk⟩ : ∃ k : Nat, (k : Int) = p % j := ⟨(p % (j : Int)).toNat, by have : 0 ≤ p % (j : Int) := Int.emod_nonneg _ (by omega); omega⟩
    obtain ⟨hkj, hcE, hcL⟩ := fill_copy zs j k p h0 (by omega) hk p1
    have HCE := hide hcE
    have HCL := hide hcL
    have HLEN := hide (fillL_len zs j)
    have HK := hide hk
    have hbs := byteS_size q
    have hbq := byteS_get q (by omega)
    clear hcE hcL hO hq hy hJ hk
    go_wp2_with fail
    refine (bw_oldest HB.out HO.out).mono ?_
    rintro e w3 ⟨rfl, h3⟩
    have H3 := hide (h3.push #[.int .i64 1, .int .i64 2, .string (byteS q), .int .u64 y] 33)
    clear h3
    go_wp2_with fail
    refine (bw_len H3.out).mono ?_
    rw [HLEN.out]
    rintro e w4 ⟨rfl, rfl⟩
    go_wp2_with fail
    refine (bw_copy p H3.out HCE.out HCL.out).mono ?_
    rintro e w4 ⟨rfl, h4⟩
    have H4 := hide h4
    clear h4
    go_wp2_with fail
    refine (bw_items H4.out).mono ?_
    rw [List.length_append, HLEN.out]
    rintro e w5 ⟨A, c, rfl, ho, h5⟩
    have hlen2 : (fillL zs j ++ [itJ zs k]).length = j + 1 := by rw [List.length_append, HLEN.out]; rfl
    rw [show ([itJ zs k] : List It).length = 1 from rfl, ← hlen2] at ho
    obtain ⟨g, rfl, _, _, a0, a1, a2, a3⟩ := own_item ho (k := j) (by omega)
    obtain ⟨_, he, _, _, b0, b1, b2, b3⟩ := own_item ho (k := k) (by omega)
    injection he with he
    injection he with he
    subst he
    have i1 : itAt (fillL zs j ++ [itJ zs k]) j = itJ zs k := by
      unfold itAt
      rw [List.getElem?_append_right (by rw [HLEN.out]; exact Nat.le_refl _), HLEN.out, Nat.sub_self]
      rfl
    have i2 : itAt (fillL zs j ++ [itJ zs k]) k = itJ zs k := by
      have := fillL_at zs j k hkj
      unfold itAt at this ⊢
      rw [List.getElem?_append_left (by rw [HLEN.out]; exact hkj)]
      exact this
    obtain ⟨x, hx⟩ : ∃ x, x = itJ zs k := ⟨_, rfl⟩
    rw [i1, ← hx] at a0 a1 a2 a3
    rw [i2, ← hx] at b0 b1 b2 b3
    have hq33 := fun (W : World) => eq_item x x W
    have hgd := fun (op : BinOp) (o1 o2 : Operand) (xs ys : Array Value) (W : World) => guard_item op o1 o2 xs ys W
    have hs := eqIt_self x
    have kx := ((h5.kept (.head _)).cell 2).trans rfl
    have lx := (h5.kept (.head _)).lt
    have j1 : (k : Int) < (j : Int) + 1 := by omega
    have j2 : ((p % (j : Int)) : Int).toNat = k := by have := HK.out; omega
    have j3 : (0 : Int) ≤ p % (j : Int) := by have := HK.out; omega
    have j4 : p % (j : Int) < (j : Int) + 1 := by have := HK.out; omega
    have H5 := hide h5
    clear ho h5 hx i1 i2
    go_wp2_with fail
    go_quiet (fail)
    go_wp2_with fail
    go_ret
    exact ⟨rfl, below_drewN H5.out.bel _⟩

set_option maxRecDepth 100000 in
set_option maxHeartbeats 20000000 in
theorem oldest_law (A : Option Addr) (n c : Nat) (zs : List Int) (p : Int) (w : World) (hl : n ≤ 9223372036854775807) (hzl : zs.length = n) (hr : Reads w w.heap.size 1 A n (zs.map (.int .u8)))
    (hz : ∀ k, 0 ≤ zs.getD k 0 ∧ zs.getD k 0 ≤ 255) (p0 : 0 ≤ p ∧ p ≤ 255) :
    Calls Try.prog 6 #[.slice A n c, .int .u8 p] w fun e w' => e = .returned (.bool true) ∧ Below w.heap.size w w' := by
  have RD := hide hr
  have HZ := hide hz
  obtain ⟨p1, p2⟩ := p0
  obtain ⟨M, hM⟩ : ∃ M, M = min n 12 := ⟨_, rfl⟩
  have hM1 : M ≤ n := by omega
  have hM2 : M ≤ 12 := by omega
  have HM := hide hM
  clear hr hz hM
  go_enter Try.func6, Try.ntmps6
  go_wp2_with fail
  refine (examples_any _).mono ?_
  rintro e w1 ⟨rfl, hb1⟩
  go_wp2_with fail
  refine (bw_new 20 w w1 hb1 (by omega) (by omega)).mono ?_
  rintro e w2 ⟨b, rfl, h2⟩
  have H2 := hide h2
  clear h2 hb1
  go_upto_block 0 with fail
  rename_i K0 hK0
  have HK0 := hide hK0
  clear hK0
  refine wp_block_then ?_
  go_loopg [8, 9] (M + 1) (fun q least i wr => ∃ j : Nat, i = .int .i64 (j : Int) ∧ j ≤ M ∧ q = M + 1 - j ∧ least = .int .i64 (leastI zs j) ∧ BB w wr b (fillL zs j) 20 [])
  case atStart => exact ⟨0, rfl, by omega, by omega, rfl, H2.out⟩
  case round =>
    obtain ⟨j, rfl, hj, rfl, rfl, hbb⟩ := hrel
    have HB := hide hbb
    by_cases hlt : j < M
    · have j1 : (j : Int) < n := by omega
      have j2 : (j : Int) < 12 := by omega
      obtain ⟨hE, hL⟩ := fill_put zs j (by omega)
      obtain ⟨ad, rfl, hab, hac⟩ := u8_at (RD.out.below hbb.bel) (k := j) (by omega)
      obtain ⟨z, hzz⟩ : ∃ z, z = zs.getD j 0 := ⟨_, rfl⟩
      have hJ : itJ zs j = ⟨1, 2, byteS j, z⟩ := by rw [itJ, hzz]
      rw [hJ] at hE hL
      rw [← hzz] at hac
      have hlt2 : ad.block < wr.heap.size := by have := hbb.sz; omega
      have hz1 := HZ.out j
      rw [← hzz] at hz1
      have hw2 : IntKind.u64.wrap z = z := IntWalk.u64_in _ (by omega)
      have HJ := hide hJ
      have HZZ := hide hzz
      have hac2 : (wr.alloc (.cells #[.int .u8 (j : Int)] 5)).cell? (ad.add j) = some (.int .u8 z) := (World.cell?_alloc_lt wr _ _ (by rw [block_of_add]; exact hlt2)).trans hac
      have hw : IntKind.u8.wrap (j : Int) = (j : Int) := IntWalk.u8_in _ (by omega)
      have HE := hide hE
      have HL := hide hL
      have hconv : ∀ W : World, W.cell? ⟨wr.heap.size, 0, none⟩ = some (.int .u8 (j : Int)) → (convert 58 9 (.slice (some ⟨wr.heap.size, 0, none⟩) 1 1)).run Try.prog W = .ok (.string (byteS j)) W := by
        intro W hW
        refine run_convert_bytes_arg (P := Try.prog) W 58 5 Try.underlying58 Try.underlying5 wr.heap.size 0 1 1 [(j : Int)] rfl (fun i hi => ?_) 9 Try.underlying9
        obtain rfl : i = 0 := by omega
        exact hW
      have HP := hide (bw_put ⟨1, 2, byteS j, z⟩ ((HB.out.alloc (.cells #[.int .u8 (j : Int)] 5)).drew) HE.out HL.out)
      clear hE hL hbb hJ hzz
      go_upto_region 11 with fail
      go_region_law (go_simp; go_at_call 17; refine HP.out.mono ?_; rintro e w3 ⟨rfl, h3⟩; have H3 := hide h3; clear h3)
      all_goals
        rcases Nat.eq_zero_or_pos j with h0 | h0
        · have hl0 : leastI zs j = -1 := by rw [leastI, if_pos h0]
          have HN := hide (show leastI zs (j + 1) = (j : Int) by rw [h0]; simp [leastI, leastN_one])
          clear h0
          go_wp2_with fail
          go_quiet (fail)
          go_wp2_with fail
          go_roundg (M + 1 - (j + 1))
          case measure => omega
          case rel => exact ⟨j + 1, by go_num, by omega, rfl, by rw [HN.out], BW.drewN H3.out nq⟩
        · obtain ⟨q, hq⟩ : ∃ q, q = leastN zs j := ⟨_, rfl⟩
          have hqj := leastN_lt zs j h0
          rw [← hq] at hqj
          have hl0 : leastI zs j = (q : Int) := by rw [leastI, if_neg (by omega), hq]
          obtain ⟨ad', he, _, hq2⟩ := u8_at (RD.out.below H3.out.bel) (k := q) (by omega)
          obtain ⟨_, he2, _, hq3⟩ := u8_at (RD.out.below H3.out.bel) (k := j) (by omega)
          injection he with he
          injection he2 with he2
          subst he he2
          obtain ⟨y, hy⟩ : ∃ y, y = zs.getD q 0 := ⟨_, rfl⟩
          rw [← hy] at hq2
          rw [← HZZ.out] at hq3
          have q1 : (q : Int) < n := by omega
          have HQ := hide hq
          have HY := hide hy
          clear hq hy h0
          by_cases hzy : z < y
          · have HN := hide (show leastI zs (j + 1) = (j : Int) by rw [leastI, if_neg (by omega), leastN, ← HQ.out, ← HY.out, ← HZZ.out, if_pos hzy])
            go_wp2_with fail
            go_quiet (fail)
            go_wp2_with fail
            go_roundg (M + 1 - (j + 1))
            case measure => omega
            case rel => exact ⟨j + 1, by go_num, by omega, rfl, by rw [HN.out], BW.drewN H3.out nq⟩
          · have HN := hide (show leastI zs (j + 1) = (q : Int) by rw [leastI, if_neg (by omega), leastN, ← HQ.out, ← HY.out, ← HZZ.out, if_neg hzy])
            have hzy2 : y ≤ z := by omega
            clear hzy
            go_wp2_with fail
            go_quiet (fail)
            go_wp2_with fail
            go_roundg (M + 1 - (j + 1))
            case measure => omega
            case rel => exact ⟨j + 1, by go_num, by omega, rfl, by rw [HN.out], BW.drewN H3.out nq⟩
    · obtain rfl : j = M := by omega
      clear hbb
      have hfin2 : (n : Int) ≤ j ∨ ((j : Int) < n ∧ (12 : Int) ≤ j) := by have := HM.out; omega
      rcases hfin2 with hf | ⟨hf, hg⟩
      · go_wp2_with fail
        refine HK0.out _ _ ?_
        exact oldEnd w _ b j p zs p1 p2 (by omega) HB.out
      · go_wp2_with fail
        refine HK0.out _ _ ?_
        exact oldEnd w _ b j p zs p1 p2 (by omega) HB.out

end Go.Proofs.Ytioehmlaaimeaaa
