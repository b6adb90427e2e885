/-
  Chapter 2: PackBack walked to where a text is put; its law.
-/
import Derived.Test.YtjneagcomaljdaaM1
import Derived.Test.YtjneagcomaljdaaM2
import Derived.Test.YtjneagcomaljdaaN1
import Derived.Deep.DeepCutAuto
namespace Go.Proofs.Ytjneagcomaljdaa
open Go.RowKit
set_option linter.unusedVariables false

set_option maxRecDepth 100000 in
set_option maxHeartbeats 4000000 in
theorem backEndS {c1 c6 c7 c8 c9 c10 c11 c12 c15 c16 c17 c18 c19 c20 c21 c22 c23 c24 c25 c26 c27 c28 c29 c30 c31 c32 c33 c34 c35 c36 c37 c38 c39 c40 c41 c42 c43 c44 c45 c46 c47 c48 c49 c50 c51 c52 c53 c54 c55 c56 c57 c58 c59 c60 c61 c62 c63 c64 c65 c66 c67 c68 c69 c70 c71 c72 c73 c74 c75 c76 c77 c78 c79 c80 c81 c82 c83 c84 c85 c86 c87 c88 c89 c90 c91 c92 c93 c94 c95 c96 c97 c98 c99 c100 c101 c102 c103 c104 c105 c106 c107 c108 c109 c110 c111 c112 c113 c114 c115 c116 c117 c118 c119 c120 c121 c122 c123 c124 c125 c126 c127 c128 c129 c130 c131 c132 c133 c134 c135 c136 c137 c138 c139 c140 c141 c142 c143 c144 c145 c146 c147 c148 c149 c150 c151 c152 c153 c154 c155 c156 c157 c158 c159 c160 c161 c162 c163 c164 c165 c166 c167 c168 : Value} (w wc : World) (A k cut : Nat) (s rest : ByteArray) (fl : Bool) (hs0 : (s.size : Int) ≤ 300) (hk : k < 8) (hA : A < 256 ^ (k + 1)) (hs : s.size ≤ 300) (hr : rest.size ≤ 140737488351232) (hc : cut ≤ 65535)
    (HB0 : Below w.heap.size w wc) :
    backTailCode.wp Try.prog (bodyPost Try.prog Try.f4 fun e w' => e = .returned (.bool true) ∧ Below w.heap.size w w') ⟨#[.int .u64 A, c1, .string s, .bool fl, .string rest, .int .u16 cut, c6, c7, c8, c9, c10, c11, c12, .bool true, .int .i64 (1 + (k : Int)), c15, c16, c17, c18, c19, c20, c21, c22, c23, c24, c25, c26, c27, c28, c29, c30, c31, c32, c33, c34, c35, c36, c37, c38, c39, c40, c41, c42, c43, c44, c45, c46, c47, c48, c49, c50, c51, c52, c53, c54, c55, c56, c57, c58, c59, c60, c61, c62, c63, c64, c65, c66, c67, c68, c69, c70, c71, c72, c73, c74, c75, c76, c77, c78, c79, c80, c81, c82, c83, c84, c85, c86, c87, c88, c89, c90, c91, c92, c93, c94, c95, c96, c97, c98, c99, c100, c101, c102, c103, c104, c105, c106, c107, c108, c109, c110, c111, c112, c113, c114, c115, c116, c117, c118, c119, c120, c121, c122, c123, c124, c125, c126, c127, c128, c129, c130, c131, c132, c133, c134, c135, c136, c137, c138, c139, c140, c141, c142, c143, c144, c145, c146, c147, c148, c149, c150, c151, c152, c153, c154, c155, c156, c157, c158, c159, c160, c161, c162, c163, c164, c165, c166, c167, c168], []⟩ wc := by
  have hp := pow_le k hk
  rw [← Nat.pow_succ] at hp
  have ek : (1 : Int) + k = ((k + 1 : Nat) : Int) := by omega
  obtain ⟨L, hL⟩ : ∃ L, putB A (k + 1) ++ (putB s.size 2 ++ s) ++ isP fl = L := ⟨_, rfl⟩
  have hsz : L.size = (k + 1) + (2 + s.size) + 1 := by rw [← hL]; simp only [ByteArray.size_append, putB_size, isP_size]
  have hq : cut % L.size < L.size := Nat.mod_lt _ (by omega)
  obtain ⟨NN, hNN⟩ : ∃ NN, numB (L.extract 0 (cut % L.size)) false ((k + 1 : Nat) : Int) = NN := ⟨_, rfl⟩
  obtain ⟨TT, hTT⟩ : ∃ TT, textB NN.2.1 NN.2.2 = TT := ⟨_, rfl⟩
  have hbad := cut_bad A k (cut % L.size) s fl hk hA hs L _ hL hq rfl NN TT hNN hTT
  have hT : strP s = (putB s.size 2 ++ s, true) := by
    unfold strP
    rw [if_neg (by omega)]
    exact congrArg (fun z => (z ++ s, true)) (numP_in s.size 2 (by omega) (by omega))
  have hX : L ++ rest = putB A (k + 1) ++ ((putB s.size 2 ++ s) ++ (isP fl ++ rest)) := by rw [← hL]; simp only [ByteArray.append_assoc]
  have hPs : (L.extract 0 (cut % L.size)).size ≤ 400 := by rw [ByteArray.size_extract]; omega
  refine backTailS w wc A k (cut % L.size) NN.1 cut s rest (putB s.size 2 ++ s) (putB A (k + 1)) (isP fl) _ L (L ++ rest) ((putB s.size 2 ++ s) ++ (isP fl ++ rest)) (isP fl ++ rest)
    NN.2.1 TT.2.1 TT.1 fl NN.2.2 TT.2.2 (flagB TT.2.1 TT.2.2).1
    (fun W => ?_) (fun W => ?_) (fun W => is_any fl W) (fun W => ?_) (fun W => ?_) (fun W => ?_) (fun W => ?_) (fun W => ?_)
    (fun W => ?_) (fun W => ?_) ?_ ?_ ?_ rfl hL rfl ?_ ?_ hc (Int.natCast_emod _ _).symm ?_ hs0 HB0
  · have := str_any s W (by unfold maxLen; omega)
    rwa [hT] at this
  · rw [ek]
    have := put_any A ((k + 1 : Nat) : Int) W (by omega)
    rwa [numP_in A (k + 1) (by omega) (by omega)] at this
  · rw [ek]
    have := number_any (L ++ rest) false ((k + 1 : Nat) : Int) W (by rw [ByteArray.size_append]; unfold maxLen; omega)
    rwa [hX, numB_put A k _ hk hA, ← hX] at this
  · have := text_any ((putB s.size 2 ++ s) ++ (isP fl ++ rest)) false W (by simp only [ByteArray.size_append, putB_size, isP_size]; unfold maxLen; omega)
    rwa [textB_put s _ hs] at this
  · have := flag_any (isP fl ++ rest) false W (by simp only [ByteArray.size_append, isP_size]; unfold maxLen; omega)
    rwa [flagB_put] at this
  · rw [ek]
    have := number_any (L.extract 0 (cut % L.size)) false ((k + 1 : Nat) : Int) W (by unfold maxLen; omega)
    rwa [hNN] at this
  · have := text_any NN.2.1 NN.2.2 W (by rw [← hNN]; exact Nat.le_trans (numB_rest _ _ _) (by unfold maxLen; omega))
    rwa [hTT] at this
  · have := flag_any TT.2.1 TT.2.2 W (by rw [← hTT, ← hNN]; exact Nat.le_trans (textB_rest _ _) (Nat.le_trans (numB_rest _ _ _) (by unfold maxLen; omega)))
    rw [hbad] at this
    exact this
  · have := done_any rest false W
    exact this
  · rw [putB_size, ByteArray.size_append, putB_size]; omega
  · have h2 : (putB A (k + 1) ++ (putB s.size 2 ++ s)).size + (isP fl).size = L.size := by rw [← hL]; exact ByteArray.size_append.symm
    omega
  · omega
  · omega
  · rw [ByteArray.toList_eq]
    have h3 : L.data.toList.length = L.size := by simp
    cases h4 : L.data.toList with
    | nil => rw [h4] at h3; simp at h3; omega
    | cons x l => rfl
  · omega
set_option maxRecDepth 100000 in
set_option maxHeartbeats 4000000 in
theorem backEndL {c1 c6 c7 c8 c9 c10 c11 c12 c15 c16 c17 c18 c19 c20 c21 c22 c23 c24 c25 c26 c27 c28 c29 c30 c31 c32 c33 c34 c35 c36 c37 c38 c39 c40 c41 c42 c43 c44 c45 c46 c47 c48 c49 c50 c51 c52 c53 c54 c55 c56 c57 c58 c59 c60 c61 c62 c63 c64 c65 c66 c67 c68 c69 c70 c71 c72 c73 c74 c75 c76 c77 c78 c79 c80 c81 c82 c83 c84 c85 c86 c87 c88 c89 c90 c91 c92 c93 c94 c95 c96 c97 c98 c99 c100 c101 c102 c103 c104 c105 c106 c107 c108 c109 c110 c111 c112 c113 c114 c115 c116 c117 c118 c119 c120 c121 c122 c123 c124 c125 c126 c127 c128 c129 c130 c131 c132 c133 c134 c135 c136 c137 c138 c139 c140 c141 c142 c143 c144 c145 c146 c147 c148 c149 c150 c151 c152 c153 c154 c155 c156 c157 c158 c159 c160 c161 c162 c163 c164 c165 c166 c167 c168 : Value} (w wc : World) (A k cut : Nat) (s0 s rest : ByteArray) (fl : Bool) (hs0 : (300 : Int) < s0.size) (hs1 : s0.extract 0 300 = s) (hk : k < 8) (hA : A < 256 ^ (k + 1)) (hs : s.size ≤ 300) (hr : rest.size ≤ 140737488351232) (hc : cut ≤ 65535)
    (HB0 : Below w.heap.size w wc) :
    backTailCode.wp Try.prog (bodyPost Try.prog Try.f4 fun e w' => e = .returned (.bool true) ∧ Below w.heap.size w w') ⟨#[.int .u64 A, c1, .string s0, .bool fl, .string rest, .int .u16 cut, c6, c7, c8, c9, c10, c11, c12, .bool true, .int .i64 (1 + (k : Int)), c15, c16, c17, c18, c19, c20, c21, c22, c23, c24, c25, c26, c27, c28, c29, c30, c31, c32, c33, c34, c35, c36, c37, c38, c39, c40, c41, c42, c43, c44, c45, c46, c47, c48, c49, c50, c51, c52, c53, c54, c55, c56, c57, c58, c59, c60, c61, c62, c63, c64, c65, c66, c67, c68, c69, c70, c71, c72, c73, c74, c75, c76, c77, c78, c79, c80, c81, c82, c83, c84, c85, c86, c87, c88, c89, c90, c91, c92, c93, c94, c95, c96, c97, c98, c99, c100, c101, c102, c103, c104, c105, c106, c107, c108, c109, c110, c111, c112, c113, c114, c115, c116, c117, c118, c119, c120, c121, c122, c123, c124, c125, c126, c127, c128, c129, c130, c131, c132, c133, c134, c135, c136, c137, c138, c139, c140, c141, c142, c143, c144, c145, c146, c147, c148, c149, c150, c151, c152, c153, c154, c155, c156, c157, c158, c159, c160, c161, c162, c163, c164, c165, c166, c167, c168], []⟩ wc := by
  have hp := pow_le k hk
  rw [← Nat.pow_succ] at hp
  have ek : (1 : Int) + k = ((k + 1 : Nat) : Int) := by omega
  obtain ⟨L, hL⟩ : ∃ L, putB A (k + 1) ++ (putB s.size 2 ++ s) ++ isP fl = L := ⟨_, rfl⟩
  have hsz : L.size = (k + 1) + (2 + s.size) + 1 := by rw [← hL]; simp only [ByteArray.size_append, putB_size, isP_size]
  have hq : cut % L.size < L.size := Nat.mod_lt _ (by omega)
  obtain ⟨NN, hNN⟩ : ∃ NN, numB (L.extract 0 (cut % L.size)) false ((k + 1 : Nat) : Int) = NN := ⟨_, rfl⟩
  obtain ⟨TT, hTT⟩ : ∃ TT, textB NN.2.1 NN.2.2 = TT := ⟨_, rfl⟩
  have hbad := cut_bad A k (cut % L.size) s fl hk hA hs L _ hL hq rfl NN TT hNN hTT
  have hT : strP s = (putB s.size 2 ++ s, true) := by
    unfold strP
    rw [if_neg (by omega)]
    exact congrArg (fun z => (z ++ s, true)) (numP_in s.size 2 (by omega) (by omega))
  have hX : L ++ rest = putB A (k + 1) ++ ((putB s.size 2 ++ s) ++ (isP fl ++ rest)) := by rw [← hL]; simp only [ByteArray.append_assoc]
  have hPs : (L.extract 0 (cut % L.size)).size ≤ 400 := by rw [ByteArray.size_extract]; omega
  refine backTailL w wc A k (cut % L.size) NN.1 cut s0 s rest (putB s.size 2 ++ s) (putB A (k + 1)) (isP fl) _ L (L ++ rest) ((putB s.size 2 ++ s) ++ (isP fl ++ rest)) (isP fl ++ rest)
    NN.2.1 TT.2.1 TT.1 fl NN.2.2 TT.2.2 (flagB TT.2.1 TT.2.2).1
    (fun W => ?_) (fun W => ?_) (fun W => is_any fl W) (fun W => ?_) (fun W => ?_) (fun W => ?_) (fun W => ?_) (fun W => ?_)
    (fun W => ?_) (fun W => ?_) ?_ ?_ ?_ rfl hL rfl ?_ ?_ hc (Int.natCast_emod _ _).symm ?_ hs0 hs1 HB0
  · have := str_any s W (by unfold maxLen; omega)
    rwa [hT] at this
  · rw [ek]
    have := put_any A ((k + 1 : Nat) : Int) W (by omega)
    rwa [numP_in A (k + 1) (by omega) (by omega)] at this
  · rw [ek]
    have := number_any (L ++ rest) false ((k + 1 : Nat) : Int) W (by rw [ByteArray.size_append]; unfold maxLen; omega)
    rwa [hX, numB_put A k _ hk hA, ← hX] at this
  · have := text_any ((putB s.size 2 ++ s) ++ (isP fl ++ rest)) false W (by simp only [ByteArray.size_append, putB_size, isP_size]; unfold maxLen; omega)
    rwa [textB_put s _ hs] at this
  · have := flag_any (isP fl ++ rest) false W (by simp only [ByteArray.size_append, isP_size]; unfold maxLen; omega)
    rwa [flagB_put] at this
  · rw [ek]
    have := number_any (L.extract 0 (cut % L.size)) false ((k + 1 : Nat) : Int) W (by unfold maxLen; omega)
    rwa [hNN] at this
  · have := text_any NN.2.1 NN.2.2 W (by rw [← hNN]; exact Nat.le_trans (numB_rest _ _ _) (by unfold maxLen; omega))
    rwa [hTT] at this
  · have := flag_any TT.2.1 TT.2.2 W (by rw [← hTT, ← hNN]; exact Nat.le_trans (textB_rest _ _) (Nat.le_trans (numB_rest _ _ _) (by unfold maxLen; omega)))
    rw [hbad] at this
    exact this
  · have := done_any rest false W
    exact this
  · rw [putB_size, ByteArray.size_append, putB_size]; omega
  · have h2 : (putB A (k + 1) ++ (putB s.size 2 ++ s)).size + (isP fl).size = L.size := by rw [← hL]; exact ByteArray.size_append.symm
    omega
  · omega
  · omega
  · rw [ByteArray.toList_eq]
    have h3 : L.data.toList.length = L.size := by simp
    cases h4 : L.data.toList with
    | nil => rw [h4] at h3; simp at h3; omega
    | cons x l => rfl
  · omega

set_option maxRecDepth 100000 in
set_option maxHeartbeats 2000000 in
theorem back_ms (a k A P size cut : Nat) (s rest : ByteArray) (fl : Bool) (w : World) (hk : k < 8) (hs : (size : Int) % 8 = k)
    (h7 : (k : Int) + 1 < 8) (hW : IntKind.u64.wrap (2 ^ (8 * (1 + k))) = (P : Int)) (hP : ¬ (P : Int) = 0) (hA : (a : Int) % (P : Int) = (A : Nat)) (hl : (s.size : Int) ≤ 300) (hA2 : A < 256 ^ (k + 1)) (hr : rest.size ≤ 140737488351232) (hc : cut ≤ 65535) :
    Calls Try.prog 4 #[.int .u64 a, .int .u8 size, .string s, .bool fl, .string rest, .int .u16 cut] w fun e w' => e = .returned (.bool true) ∧ Below w.heap.size w w' := by
  have HA2 := hide hA2
  have HK := hide hk
  clear hA2 hk
  go_enter Try.func4, Try.ntmps4
  go_wp2_with fail
  refine (examples_any _).mono ?_
  rintro e w1 ⟨rfl, hb1⟩
  have B1 := hide hb1
  clear hb1
  go_upto_if 40 with fail
  rename_i K1 hK1
  have HK1 := hide hK1
  clear hK1
  go_wp2_with fail
  refine HK1.out _ _ ?_
  rw [hA]
  exact backEndS w w1 A k cut s rest fl hl HK.out HA2.out (by omega) hr hc B1.out

set_option maxRecDepth 100000 in
set_option maxHeartbeats 2000000 in
theorem back_ml (a k A P size cut : Nat) (s rest : ByteArray) (fl : Bool) (w : World) (hk : k < 8) (hs : (size : Int) % 8 = k)
    (h7 : (k : Int) + 1 < 8) (hW : IntKind.u64.wrap (2 ^ (8 * (1 + k))) = (P : Int)) (hP : ¬ (P : Int) = 0) (hA : (a : Int) % (P : Int) = (A : Nat)) (hl : (300 : Int) < s.size) (hA2 : A < 256 ^ (k + 1)) (hr : rest.size ≤ 140737488351232) (hc : cut ≤ 65535) :
    Calls Try.prog 4 #[.int .u64 a, .int .u8 size, .string s, .bool fl, .string rest, .int .u16 cut] w fun e w' => e = .returned (.bool true) ∧ Below w.heap.size w w' := by
  have HA2 := hide hA2
  have HK := hide hk
  clear hA2 hk
  go_enter Try.func4, Try.ntmps4
  go_wp2_with fail
  refine (examples_any _).mono ?_
  rintro e w1 ⟨rfl, hb1⟩
  have B1 := hide hb1
  clear hb1
  go_upto_if 40 with fail
  rename_i K1 hK1
  have HK1 := hide hK1
  clear hK1
  go_wp2_with fail
  refine HK1.out _ _ ?_
  rw [hA]
  exact backEndL w w1 A k cut s (s.extract 0 300) rest fl hl rfl HK.out HA2.out (by rw [ByteArray.size_extract]; omega) hr hc B1.out

set_option maxRecDepth 100000 in
set_option maxHeartbeats 2000000 in
theorem back_as (k A size cut : Nat) (s rest : ByteArray) (fl : Bool) (w : World) (hk : k < 8) (hs : (size : Int) % 8 = k)
    (h7 : 8 ≤ (k : Int) + 1) (hl : (s.size : Int) ≤ 300) (hA2 : A < 256 ^ (k + 1)) (hr : rest.size ≤ 140737488351232) (hc : cut ≤ 65535) :
    Calls Try.prog 4 #[.int .u64 A, .int .u8 size, .string s, .bool fl, .string rest, .int .u16 cut] w fun e w' => e = .returned (.bool true) ∧ Below w.heap.size w w' := by
  have HA2 := hide hA2
  have HK := hide hk
  clear hA2 hk
  go_enter Try.func4, Try.ntmps4
  go_wp2_with fail
  refine (examples_any _).mono ?_
  rintro e w1 ⟨rfl, hb1⟩
  have B1 := hide hb1
  clear hb1
  go_upto_if 40 with fail
  rename_i K1 hK1
  have HK1 := hide hK1
  clear hK1
  go_wp2_with fail
  refine HK1.out _ _ ?_

  exact backEndS w w1 A k cut s rest fl hl HK.out HA2.out (by omega) hr hc B1.out

set_option maxRecDepth 100000 in
set_option maxHeartbeats 2000000 in
theorem back_al (k A size cut : Nat) (s rest : ByteArray) (fl : Bool) (w : World) (hk : k < 8) (hs : (size : Int) % 8 = k)
    (h7 : 8 ≤ (k : Int) + 1) (hl : (300 : Int) < s.size) (hA2 : A < 256 ^ (k + 1)) (hr : rest.size ≤ 140737488351232) (hc : cut ≤ 65535) :
    Calls Try.prog 4 #[.int .u64 A, .int .u8 size, .string s, .bool fl, .string rest, .int .u16 cut] w fun e w' => e = .returned (.bool true) ∧ Below w.heap.size w w' := by
  have HA2 := hide hA2
  have HK := hide hk
  clear hA2 hk
  go_enter Try.func4, Try.ntmps4
  go_wp2_with fail
  refine (examples_any _).mono ?_
  rintro e w1 ⟨rfl, hb1⟩
  have B1 := hide hb1
  clear hb1
  go_upto_if 40 with fail
  rename_i K1 hK1
  have HK1 := hide hK1
  clear hK1
  go_wp2_with fail
  refine HK1.out _ _ ?_

  exact backEndL w w1 A k cut s (s.extract 0 300) rest fl hl rfl HK.out HA2.out (by rw [ByteArray.size_extract]; omega) hr hc B1.out

theorem back_law (a size cut : Int) (s rest : ByteArray) (fl : Bool) (w : World) (ha : 0 ≤ a ∧ a < 18446744073709551616) (hs : 0 ≤ size ∧ size < 256) (hc : 0 ≤ cut ∧ cut ≤ 65535) (hr : rest.size ≤ 140737488351232) :
    Calls Try.prog 4 #[.int .u64 a, .int .u8 size, .string s, .bool fl, .string rest, .int .u16 cut] w fun e w' => e = .returned (.bool true) ∧ Below w.heap.size w w' := by
  obtain ⟨a, rfl⟩ := Int.eq_ofNat_of_zero_le ha.1
  obtain ⟨cut, rfl⟩ := Int.eq_ofNat_of_zero_le hc.1
  obtain ⟨size, rfl⟩ := Int.eq_ofNat_of_zero_le hs.1
  have h8 : size % 8 < 8 := Nat.mod_lt _ (by omega)
  obtain ⟨k, hk⟩ : ∃ k, k = size % 8 := ⟨_, rfl⟩
  rw [← hk] at h8
  by_cases h7 : k + 1 < 8
  · have hp : 0 < 256 ^ (k + 1) := Nat.pow_pos (by omega)
    have hle := pow_le (k + 1) h7
    have hW : IntKind.u64.wrap (2 ^ (8 * (1 + k))) = ((256 ^ (k + 1) : Nat) : Int) := by
      have e : ((2 : Int) ^ (8 * (1 + k))) = ((256 ^ (k + 1) : Nat) : Int) := by
        have h : (256 : Nat) ^ (k + 1) = 2 ^ (8 * (1 + k)) := by rw [Nat.pow_mul, Nat.add_comm]
        rw [h, Int.natCast_pow]
        rfl
      rw [e, IntWalk.u64_in _ (by omega)]
    by_cases hl : s.size ≤ 300
    · exact back_ms a k (a % 256 ^ (k + 1)) (256 ^ (k + 1)) size cut s rest fl w h8 (by omega) (by omega) hW (by omega) (Int.natCast_emod _ _).symm (by omega) (Nat.mod_lt _ hp) hr (by omega)
    · exact back_ml a k (a % 256 ^ (k + 1)) (256 ^ (k + 1)) size cut s rest fl w h8 (by omega) (by omega) hW (by omega) (Int.natCast_emod _ _).symm (by omega) (Nat.mod_lt _ hp) hr (by omega)
  · obtain rfl : k = 7 := by omega
    by_cases hl : s.size ≤ 300
    · exact back_as 7 a size cut s rest fl w h8 (by omega) (by omega) (by omega) (by omega) hr (by omega)
    · exact back_al 7 a size cut s rest fl w h8 (by omega) (by omega) (by omega) (by omega) hr (by omega)

end Go.Proofs.Ytjneagcomaljdaa
