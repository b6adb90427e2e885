/-
  Chapter 21: BagRoom: the law's walk.
-/
import Derived.Test.YtioehmlaaimeaaaE1
import Derived.Deep.DeepCutAuto
namespace Go.Proofs.Ytioehmlaaimeaaa
open Go.RowKit

def itM : It := ⟨1, 2, ⟨#[109]⟩, 0⟩
def roomL (j k : Nat) : List It := List.replicate (min j k) itM
theorem room_put (j k : Nat) (room : Int) (hk : (k : Int) = room) : putE (roomL j k) room itM = (if j < k then 0 else 4) ∧ putL (roomL j k) room itM = roomL (j + 1) k := by
  have hm : mayI itM = true := rfl
  unfold putL putE
  rw [hm]
  simp only [roomL, List.length_replicate, if_true]
  by_cases h : j < k
  · rw [if_pos (by omega), if_pos h]
    refine ⟨rfl, ?_⟩
    rw [if_pos rfl, Nat.min_eq_left (by omega), Nat.min_eq_left (by omega), List.replicate_succ']
  · rw [if_neg (by omega), if_neg h]
    refine ⟨rfl, ?_⟩
    rw [if_neg (by omega), Nat.min_eq_right (by omega), Nat.min_eq_right (by omega)]

theorem room_take (j k : Nat) : ∃ x e, takeX (roomL j k) 0 = x ∧ pickE (roomL j k) 0 = e ∧ takeL (roomL j k) 0 = List.replicate (min j k - 1) itM := by
  refine ⟨_, _, rfl, rfl, ?_⟩
  unfold takeL pickN pickE roomL
  simp only [List.length_replicate]
  rcases Nat.eq_zero_or_pos (min j k) with h | h
  · rw [h]; rfl
  · obtain ⟨q, hq⟩ : ∃ q, min j k = q + 1 := ⟨min j k - 1, by omega⟩
    rw [hq]
    simp

def mayR (fr tq : Int) (z : Nat) : Bool := decide (1 ≤ fr) && decide (fr ≤ 7) && (decide (1 ≤ tq) && decide (tq ≤ 7)) && decide (1 ≤ z) && decide (z ≤ 8192)
theorem room_last (q k : Nat) (room fr tq : Int) (s : ByteArray) (z : Nat) (hs : s.size = z) (hk : (k : Int) = room) (hq : q < k) :
    putE (List.replicate q itM) room ⟨fr, tq, s, 0⟩ = (if mayR fr tq z = true then 0 else 1) ∧ (putL (List.replicate q itM) room ⟨fr, tq, s, 0⟩).length = q + (if mayR fr tq z = true then 1 else 0) := by
  have hm : mayI ⟨fr, tq, s, 0⟩ = mayR fr tq z := by simp only [mayI, mayR, hs]
  have hE : putE (List.replicate q itM) room ⟨fr, tq, s, 0⟩ = (if mayR fr tq z = true then 0 else 1) := by
    unfold putE
    rw [hm, List.length_replicate]
    cases mayR fr tq z
    · rfl
    · simp only [if_true]
      rw [if_pos (by omega)]
  refine ⟨hE, ?_⟩
  unfold putL
  rw [hE]
  cases mayR fr tq z <;> simp

def zstr (n : Nat) : ByteArray := strOfNums (List.replicate n 0)
theorem zstr_size (n : Nat) : (zstr n).size = n := by rw [zstr, strOfNums_size, List.length_replicate]
theorem zero_conv {w : World} {base g z : Nat} (h : w.ownsRow base 5 1 (.slice (some ⟨g, 0, none⟩) z z) z (madeCells (Value.int .u8 0).cells (z * 1)).toList) :
    (convert 58 9 (.slice (some ⟨g, 0, none⟩) z z)).run Try.prog w = .ok (.string (zstr z)) w := by
  refine run_convert_bytes_arg (P := Try.prog) w 58 5 Try.underlying58 Try.underlying5 g 0 z z (List.replicate z 0) (by simp) (fun i hi => ?_) 9 Try.underlying9
  have h1 := h.cellAt i (by omega)
  have e : (madeCells (Value.int .u8 0).cells (z * 1)).toList = List.replicate (z * 1) (.int .u8 0) := toList_madeCells_one _ _
  rw [Nat.zero_add, h1, e, Nat.mul_one, List.getElem?_replicate, if_pos hi]
  simp [List.getD, hi]

theorem u8_info : (Try.prog.info? 5).map (fun i => (i.zero, i.size, i.bytes)) = some (some (.int .u8 0), 1, 1) := by kernel_rfl

noncomputable def roomEndCode : Code := codeAt ((Try.f5.body).getD .skip) [1, 1, 1, 1, 1, 1, 1, 1, 1, 1, 1, 1, 1]

set_option maxRecDepth 100000 in
set_option maxHeartbeats 4000000 in
theorem roomEnd {c0 c2 c3 c4 c5 c6 c7 c8 c9 c10 c14 c15 c16 c19 c22 c23 c24 c25 c26 c27 c28 c29 c30 c31 c32 c33 c34 c35 c36 c37 c38 c39 c40 c41 c42 c43 c44 c45 c46 c47 c48 c49 c50 c51 c52 c53 c54 c55 c56 c57 c58 c59 c60 c61 c62 c63 c64 c65 c66 c67 c68 c69 c70 c71 c72 c73 c74 c75 c76 c77 c78 c79 c80 c81 c82 c83 c84 c85 c86 c87 c88 c89 c90 c91 c92 c93 c94 c95 c96 c97 c98 c99 c100 c101 c102 c103 c104 c105 c106 c107 c108 c109 c110 c111 c112 c113 c114 c115 c116 c117 c118 c119 c120 c121 c122 c123 c124 c125 c126 c127 c128 c129 c130 c131 c132 c133 c134 c135 c136 c137 c138 c139 c140 c141 c142 c143 c144 c145 : Value} (r m : Int) (w w5 : World) (b n k q : Nat) (l5 : List It) (K : List Kept) (may : Bool) (r1 : 0 ≤ r) (r2 : r ≤ 255) (m1 : 0 ≤ m) (m2 : m ≤ 255)
    (hk : (k : Int) = 1 + r % 20) (hn : (n : Int) = m % 30) (hq : q = min n k) (hl : l5.length = q - 1 + (if may = true then 1 else 0)) (hB : BB w w5 b l5 (1 + r % 20) K) :
    roomEndCode.wp Try.prog (bodyPost Try.prog Try.f5 fun e w' => e = .returned (.bool true) ∧ Below w.heap.size w w') ⟨#[c0, .int .u8 m, c2, c3, c4, c5, c6, c7, c8, c9, c10, .bool true, .int .i64 (1 + r % 20), .pointer (some ⟨b, 0, none⟩), c14, c15, c16, .int .i64 ((q : Nat) : Int), .int .i64 ((q - 1 : Nat) : Int), c19, .int .i64 (if may = true then 0 else 1), .bool may, c22, c23, c24, c25, c26, c27, c28, c29, c30, c31, c32, c33, c34, c35, c36, c37, c38, c39, c40, c41, c42, c43, c44, c45, c46, c47, c48, c49, c50, c51, c52, c53, c54, c55, c56, c57, c58, c59, c60, c61, c62, c63, c64, c65, c66, c67, c68, c69, c70, c71, c72, c73, c74, c75, c76, c77, c78, c79, c80, c81, c82, c83, c84, c85, c86, c87, c88, c89, c90, c91, c92, c93, c94, c95, c96, c97, c98, c99, c100, c101, c102, c103, c104, c105, c106, c107, c108, c109, c110, c111, c112, c113, c114, c115, c116, c117, c118, c119, c120, c121, c122, c123, c124, c125, c126, c127, c128, c129, c130, c131, c132, c133, c134, c135, c136, c137, c138, c139, c140, c141, c142, c143, c144, c145], []⟩ w5 := by
  have HB := hide hB
  clear hB
  have hcase : (n = 0 ∧ q = 0) ∨ (1 ≤ n ∧ n ≤ k ∧ q = n) ∨ (1 ≤ n ∧ k < n ∧ q = k) := by omega
  have f0 : (0 : Int) ≤ ((q - 1 : Nat) : Int) := by omega
  have f1 : ((q - 1 : Nat) : Int) ≤ 100 := by omega
  have e1 : ((q : Nat) : Int) = min (m % 30) (1 + r % 20) := by omega
  have e2 : ((q - 1 : Nat) : Int) = max (min (m % 30) (1 + r % 20) - 1) 0 := by omega
  conv => arg 2; whnf
  cases may with
  | true =>
    have HL := hide (show l5.length = q - 1 + 1 from hl)
    clear hl
    rcases hcase with ⟨h1, h2⟩ | ⟨h1, h2, h3⟩ | ⟨h1, h2, h3⟩
    · have i0 : m % 30 = 0 := by omega
      have i1 : (0 : Int) ≤ 1 + r % 20 := by omega
      subst h2
      clear e1 e2 hq hk hn h1
      go_wp2_with fail
      refine (bw_len HB.out).mono ?_
      rw [HL.out]
      rintro e w6 ⟨rfl, rfl⟩
      go_wp2_with fail
      refine (one_any _ _).mono ?_
      rintro e w6 ⟨rfl, rfl⟩
      go_wp2_with fail
      go_ret
      exact ⟨rfl, HB.out.bel⟩
    · have i0 : ((q : Int) == m % 30) = true := by rw [beq_iff_eq]; omega
      have i1 : m % 30 ≤ 1 + r % 20 := by omega
      have i2 : (0 : Int) ≤ m % 30 - 1 := by omega
      have i3 : ((q - 1 : Nat) : Int) == (q : Int) - 1 := by rw [beq_iff_eq]; omega
      have i4 : (0 : Int) ≤ (q : Int) - 1 := by omega
      clear e1 e2 hq hk hn h3
      go_wp2_with fail
      refine (bw_len HB.out).mono ?_
      rw [HL.out]
      rintro e w6 ⟨rfl, rfl⟩
      go_wp2_with fail
      refine (one_any _ _).mono ?_
      rintro e w6 ⟨rfl, rfl⟩
      go_wp2_with fail
      go_ret
      exact ⟨rfl, HB.out.bel⟩
    · have i0 : ((q : Int) == 1 + r % 20) = true := by rw [beq_iff_eq]; omega
      have i1 : 1 + r % 20 < m % 30 := by omega
      have i3 : ((q - 1 : Nat) : Int) == (q : Int) - 1 := by rw [beq_iff_eq]; omega
      have i4 : (0 : Int) ≤ (q : Int) - 1 := by omega
      clear e1 e2 hq hk hn h3
      go_wp2_with fail
      refine (bw_len HB.out).mono ?_
      rw [HL.out]
      rintro e w6 ⟨rfl, rfl⟩
      go_wp2_with fail
      refine (one_any _ _).mono ?_
      rintro e w6 ⟨rfl, rfl⟩
      go_wp2_with fail
      go_ret
      exact ⟨rfl, HB.out.bel⟩
  | false =>
    have HL := hide (show l5.length = q - 1 from hl)
    clear hl
    rcases hcase with ⟨h1, h2⟩ | ⟨h1, h2, h3⟩ | ⟨h1, h2, h3⟩
    · have i0 : m % 30 = 0 := by omega
      have i1 : (0 : Int) ≤ 1 + r % 20 := by omega
      subst h2
      clear e1 e2 hq hk hn h1
      go_wp2_with fail
      refine (bw_len HB.out).mono ?_
      rw [HL.out]
      rintro e w6 ⟨rfl, rfl⟩
      go_wp2_with fail
      refine (one_any _ _).mono ?_
      rintro e w6 ⟨rfl, rfl⟩
      go_wp2_with fail
      go_ret
      exact ⟨rfl, HB.out.bel⟩
    · have i0 : ((q : Int) == m % 30) = true := by rw [beq_iff_eq]; omega
      have i1 : m % 30 ≤ 1 + r % 20 := by omega
      have i3 : ((q - 1 : Nat) : Int) == (q : Int) - 1 := by rw [beq_iff_eq]; omega
      have i4 : (0 : Int) ≤ (q : Int) - 1 := by omega
      clear e1 e2 hq hk hn h3
      go_wp2_with fail
      refine (bw_len HB.out).mono ?_
      rw [HL.out]
      rintro e w6 ⟨rfl, rfl⟩
      go_wp2_with fail
      refine (one_any _ _).mono ?_
      rintro e w6 ⟨rfl, rfl⟩
      go_wp2_with fail
      go_ret
      exact ⟨rfl, HB.out.bel⟩
    · have i0 : ((q : Int) == 1 + r % 20) = true := by rw [beq_iff_eq]; omega
      have i1 : 1 + r % 20 < m % 30 := by omega
      have i3 : ((q - 1 : Nat) : Int) == (q : Int) - 1 := by rw [beq_iff_eq]; omega
      have i4 : (0 : Int) ≤ (q : Int) - 1 := by omega
      clear e1 e2 hq hk hn h3
      go_wp2_with fail
      refine (bw_len HB.out).mono ?_
      rw [HL.out]
      rintro e w6 ⟨rfl, rfl⟩
      go_wp2_with fail
      refine (one_any _ _).mono ?_
      rintro e w6 ⟨rfl, rfl⟩
      go_wp2_with fail
      go_ret
      exact ⟨rfl, HB.out.bel⟩
noncomputable def roomPutCode : Code := codeAt ((Try.f5.body).getD .skip) [1, 1, 1, 1, 1, 1, 1, 1, 1, 1, 1]

set_option maxRecDepth 100000 in
set_option maxHeartbeats 20000000 in
theorem roomPut0 {c0 c4 c5 c6 c7 c8 c9 c10 c14 c15 c16 c20 c21 c22 c23 c24 c25 c26 c27 c28 c29 c30 c31 c32 c33 c34 c35 c36 c37 c38 c39 c40 c41 c42 c43 c44 c45 c46 c47 c48 c49 c50 c51 c52 c53 c54 c55 c56 c57 c58 c59 c60 c61 c62 c63 c64 c65 c66 c67 c68 c69 c70 c71 c72 c73 c74 c75 c76 c77 c78 c79 c80 c81 c82 c83 c84 c85 c86 c87 c88 c89 c90 c91 c92 c93 c94 c95 c96 c97 c98 c99 c100 c101 c102 c103 c104 c105 c106 c107 c108 c109 c110 c111 c112 c113 c114 c115 c116 c117 c118 c119 c120 c121 c122 c123 c124 c125 c126 c127 c128 c129 c130 c131 c132 c133 c134 c135 c136 c137 c138 c139 c140 c141 c142 c143 c144 c145 : Value} (r m fr tq : Int) (w w5 : World) (b n k q z g : Nat) (r1 : 0 ≤ r) (r2 : r ≤ 255) (m1 : 0 ≤ m) (m2 : m ≤ 255)
    (hk : (k : Int) = 1 + r % 20) (hn : (n : Int) = m % 30) (hq : q = min n k) (hqk : q - 1 < k) (hz1 : z ≤ 8999) (hB : BB w w5 b (List.replicate (q - 1) itM) (1 + r % 20) [(g, 33, #[Value.int IntKind.i64 fr, Value.int IntKind.i64 tq, Value.string (zstr z), Value.int IntKind.u64 0])])
    (hc : fr < 1) : roomPutCode.wp Try.prog (bodyPost Try.prog Try.f5 fun e w' => e = .returned (.bool true) ∧ Below w.heap.size w w') ⟨#[c0, .int .u8 m, .int .i64 fr, .int .i64 tq, c4, c5, c6, c7, c8, c9, c10, .bool true, .int .i64 (1 + r % 20), .pointer (some ⟨b, 0, none⟩), c14, c15, c16, .int .i64 ((q : Nat) : Int), .int .i64 ((q - 1 : Nat) : Int), .pointer (some ⟨g, 0, none⟩), c20, c21, c22, c23, c24, c25, c26, c27, c28, c29, c30, c31, c32, c33, c34, c35, c36, c37, c38, c39, c40, c41, c42, c43, c44, c45, c46, c47, c48, c49, c50, c51, c52, c53, c54, c55, c56, c57, c58, c59, c60, c61, c62, c63, c64, c65, c66, c67, c68, c69, c70, c71, c72, c73, c74, c75, c76, c77, c78, c79, c80, c81, c82, c83, c84, c85, c86, c87, c88, c89, c90, c91, c92, c93, c94, c95, c96, c97, c98, c99, c100, c101, c102, c103, c104, c105, c106, c107, c108, c109, c110, c111, c112, c113, c114, c115, c116, c117, c118, c119, c120, c121, c122, c123, c124, c125, c126, c127, c128, c129, c130, c131, c132, c133, c134, c135, c136, c137, c138, c139, c140, c141, c142, c143, c144, c145], []⟩ w5 := by
  have hm : mayR fr tq z = false := by simp [mayR]; omega
  obtain ⟨hE, hL⟩ := room_last (q - 1) k (1 + r % 20) fr tq (zstr z) z (zstr_size z) hk hqk
  obtain ⟨l5, hl5⟩ : ∃ l5, putL (List.replicate (q - 1) itM) (1 + r % 20) ⟨fr, tq, zstr z, 0⟩ = l5 := ⟨_, rfl⟩
  rw [hl5, hm] at hL
  rw [hm] at hE
  have hsz := zstr_size z
  have E := hide hE
  have L := hide hL
  have L5 := hide hl5
  have HB := hide hB
  have HK := hide hk
  have HN := hide hn
  have HQ := hide hq
  have HM := hide hm
  have k0 := ((hB.kept (.head _)).cell 0).trans rfl
  have k1 := ((hB.kept (.head _)).cell 1).trans rfl
  have k2 := ((hB.kept (.head _)).cell 2).trans rfl
  have k3 := ((hB.kept (.head _)).cell 3).trans rfl
  skip
  clear hE hL hl5 hB hk hn hq hqk hm
  conv => arg 2; whnf
  go_wp2_with fail
  refine (bw_put ⟨fr, tq, zstr z, 0⟩ HB.out E.out L5.out).mono ?_
  rintro e w6 ⟨rfl, h6⟩
  have H6 := hide h6
  have k2 := ((h6.kept (.head _)).cell 2).trans rfl
  clear h6
  go_upto_region 19 with fail
  rename_i K1 hK1
  have HK1 := hide hK1
  clear hK1
  go_wp2_with fail
  refine HK1.out _ _ ?_
  exact roomEnd r m w w6 b n k q l5 _ false r1 r2 m1 m2 HK.out HN.out HQ.out (by simpa using L.out) H6.out

set_option maxRecDepth 100000 in
set_option maxHeartbeats 20000000 in
theorem roomPut1 {c0 c4 c5 c6 c7 c8 c9 c10 c14 c15 c16 c20 c21 c22 c23 c24 c25 c26 c27 c28 c29 c30 c31 c32 c33 c34 c35 c36 c37 c38 c39 c40 c41 c42 c43 c44 c45 c46 c47 c48 c49 c50 c51 c52 c53 c54 c55 c56 c57 c58 c59 c60 c61 c62 c63 c64 c65 c66 c67 c68 c69 c70 c71 c72 c73 c74 c75 c76 c77 c78 c79 c80 c81 c82 c83 c84 c85 c86 c87 c88 c89 c90 c91 c92 c93 c94 c95 c96 c97 c98 c99 c100 c101 c102 c103 c104 c105 c106 c107 c108 c109 c110 c111 c112 c113 c114 c115 c116 c117 c118 c119 c120 c121 c122 c123 c124 c125 c126 c127 c128 c129 c130 c131 c132 c133 c134 c135 c136 c137 c138 c139 c140 c141 c142 c143 c144 c145 : Value} (r m fr tq : Int) (w w5 : World) (b n k q z g : Nat) (r1 : 0 ≤ r) (r2 : r ≤ 255) (m1 : 0 ≤ m) (m2 : m ≤ 255)
    (hk : (k : Int) = 1 + r % 20) (hn : (n : Int) = m % 30) (hq : q = min n k) (hqk : q - 1 < k) (hz1 : z ≤ 8999) (hB : BB w w5 b (List.replicate (q - 1) itM) (1 + r % 20) [(g, 33, #[Value.int IntKind.i64 fr, Value.int IntKind.i64 tq, Value.string (zstr z), Value.int IntKind.u64 0])])
    (hc : 1 ≤ fr ∧ 7 < fr) : roomPutCode.wp Try.prog (bodyPost Try.prog Try.f5 fun e w' => e = .returned (.bool true) ∧ Below w.heap.size w w') ⟨#[c0, .int .u8 m, .int .i64 fr, .int .i64 tq, c4, c5, c6, c7, c8, c9, c10, .bool true, .int .i64 (1 + r % 20), .pointer (some ⟨b, 0, none⟩), c14, c15, c16, .int .i64 ((q : Nat) : Int), .int .i64 ((q - 1 : Nat) : Int), .pointer (some ⟨g, 0, none⟩), c20, c21, c22, c23, c24, c25, c26, c27, c28, c29, c30, c31, c32, c33, c34, c35, c36, c37, c38, c39, c40, c41, c42, c43, c44, c45, c46, c47, c48, c49, c50, c51, c52, c53, c54, c55, c56, c57, c58, c59, c60, c61, c62, c63, c64, c65, c66, c67, c68, c69, c70, c71, c72, c73, c74, c75, c76, c77, c78, c79, c80, c81, c82, c83, c84, c85, c86, c87, c88, c89, c90, c91, c92, c93, c94, c95, c96, c97, c98, c99, c100, c101, c102, c103, c104, c105, c106, c107, c108, c109, c110, c111, c112, c113, c114, c115, c116, c117, c118, c119, c120, c121, c122, c123, c124, c125, c126, c127, c128, c129, c130, c131, c132, c133, c134, c135, c136, c137, c138, c139, c140, c141, c142, c143, c144, c145], []⟩ w5 := by
  have hm : mayR fr tq z = false := by simp [mayR]; omega
  obtain ⟨hE, hL⟩ := room_last (q - 1) k (1 + r % 20) fr tq (zstr z) z (zstr_size z) hk hqk
  obtain ⟨l5, hl5⟩ : ∃ l5, putL (List.replicate (q - 1) itM) (1 + r % 20) ⟨fr, tq, zstr z, 0⟩ = l5 := ⟨_, rfl⟩
  rw [hl5, hm] at hL
  rw [hm] at hE
  have hsz := zstr_size z
  have E := hide hE
  have L := hide hL
  have L5 := hide hl5
  have HB := hide hB
  have HK := hide hk
  have HN := hide hn
  have HQ := hide hq
  have HM := hide hm
  have k0 := ((hB.kept (.head _)).cell 0).trans rfl
  have k1 := ((hB.kept (.head _)).cell 1).trans rfl
  have k2 := ((hB.kept (.head _)).cell 2).trans rfl
  have k3 := ((hB.kept (.head _)).cell 3).trans rfl
  skip
  clear hE hL hl5 hB hk hn hq hqk hm
  conv => arg 2; whnf
  go_wp2_with fail
  refine (bw_put ⟨fr, tq, zstr z, 0⟩ HB.out E.out L5.out).mono ?_
  rintro e w6 ⟨rfl, h6⟩
  have H6 := hide h6
  have k2 := ((h6.kept (.head _)).cell 2).trans rfl
  clear h6
  go_upto_region 19 with fail
  rename_i K1 hK1
  have HK1 := hide hK1
  clear hK1
  go_wp2_with fail
  refine HK1.out _ _ ?_
  exact roomEnd r m w w6 b n k q l5 _ false r1 r2 m1 m2 HK.out HN.out HQ.out (by simpa using L.out) H6.out

set_option maxRecDepth 100000 in
set_option maxHeartbeats 20000000 in
theorem roomPut2 {c0 c4 c5 c6 c7 c8 c9 c10 c14 c15 c16 c20 c21 c22 c23 c24 c25 c26 c27 c28 c29 c30 c31 c32 c33 c34 c35 c36 c37 c38 c39 c40 c41 c42 c43 c44 c45 c46 c47 c48 c49 c50 c51 c52 c53 c54 c55 c56 c57 c58 c59 c60 c61 c62 c63 c64 c65 c66 c67 c68 c69 c70 c71 c72 c73 c74 c75 c76 c77 c78 c79 c80 c81 c82 c83 c84 c85 c86 c87 c88 c89 c90 c91 c92 c93 c94 c95 c96 c97 c98 c99 c100 c101 c102 c103 c104 c105 c106 c107 c108 c109 c110 c111 c112 c113 c114 c115 c116 c117 c118 c119 c120 c121 c122 c123 c124 c125 c126 c127 c128 c129 c130 c131 c132 c133 c134 c135 c136 c137 c138 c139 c140 c141 c142 c143 c144 c145 : Value} (r m fr tq : Int) (w w5 : World) (b n k q z g : Nat) (r1 : 0 ≤ r) (r2 : r ≤ 255) (m1 : 0 ≤ m) (m2 : m ≤ 255)
    (hk : (k : Int) = 1 + r % 20) (hn : (n : Int) = m % 30) (hq : q = min n k) (hqk : q - 1 < k) (hz1 : z ≤ 8999) (hB : BB w w5 b (List.replicate (q - 1) itM) (1 + r % 20) [(g, 33, #[Value.int IntKind.i64 fr, Value.int IntKind.i64 tq, Value.string (zstr z), Value.int IntKind.u64 0])])
    (hc : (1 ≤ fr ∧ fr ≤ 7) ∧ tq < 1) : roomPutCode.wp Try.prog (bodyPost Try.prog Try.f5 fun e w' => e = .returned (.bool true) ∧ Below w.heap.size w w') ⟨#[c0, .int .u8 m, .int .i64 fr, .int .i64 tq, c4, c5, c6, c7, c8, c9, c10, .bool true, .int .i64 (1 + r % 20), .pointer (some ⟨b, 0, none⟩), c14, c15, c16, .int .i64 ((q : Nat) : Int), .int .i64 ((q - 1 : Nat) : Int), .pointer (some ⟨g, 0, none⟩), c20, c21, c22, c23, c24, c25, c26, c27, c28, c29, c30, c31, c32, c33, c34, c35, c36, c37, c38, c39, c40, c41, c42, c43, c44, c45, c46, c47, c48, c49, c50, c51, c52, c53, c54, c55, c56, c57, c58, c59, c60, c61, c62, c63, c64, c65, c66, c67, c68, c69, c70, c71, c72, c73, c74, c75, c76, c77, c78, c79, c80, c81, c82, c83, c84, c85, c86, c87, c88, c89, c90, c91, c92, c93, c94, c95, c96, c97, c98, c99, c100, c101, c102, c103, c104, c105, c106, c107, c108, c109, c110, c111, c112, c113, c114, c115, c116, c117, c118, c119, c120, c121, c122, c123, c124, c125, c126, c127, c128, c129, c130, c131, c132, c133, c134, c135, c136, c137, c138, c139, c140, c141, c142, c143, c144, c145], []⟩ w5 := by
  have hm : mayR fr tq z = false := by simp [mayR]; omega
  obtain ⟨hE, hL⟩ := room_last (q - 1) k (1 + r % 20) fr tq (zstr z) z (zstr_size z) hk hqk
  obtain ⟨l5, hl5⟩ : ∃ l5, putL (List.replicate (q - 1) itM) (1 + r % 20) ⟨fr, tq, zstr z, 0⟩ = l5 := ⟨_, rfl⟩
  rw [hl5, hm] at hL
  rw [hm] at hE
  have hsz := zstr_size z
  have E := hide hE
  have L := hide hL
  have L5 := hide hl5
  have HB := hide hB
  have HK := hide hk
  have HN := hide hn
  have HQ := hide hq
  have HM := hide hm
  have k0 := ((hB.kept (.head _)).cell 0).trans rfl
  have k1 := ((hB.kept (.head _)).cell 1).trans rfl
  have k2 := ((hB.kept (.head _)).cell 2).trans rfl
  have k3 := ((hB.kept (.head _)).cell 3).trans rfl
  skip
  clear hE hL hl5 hB hk hn hq hqk hm
  conv => arg 2; whnf
  go_wp2_with fail
  refine (bw_put ⟨fr, tq, zstr z, 0⟩ HB.out E.out L5.out).mono ?_
  rintro e w6 ⟨rfl, h6⟩
  have H6 := hide h6
  have k2 := ((h6.kept (.head _)).cell 2).trans rfl
  clear h6
  go_upto_region 19 with fail
  rename_i K1 hK1
  have HK1 := hide hK1
  clear hK1
  go_wp2_with fail
  refine HK1.out _ _ ?_
  exact roomEnd r m w w6 b n k q l5 _ false r1 r2 m1 m2 HK.out HN.out HQ.out (by simpa using L.out) H6.out

set_option maxRecDepth 100000 in
set_option maxHeartbeats 20000000 in
theorem roomPut3 {c0 c4 c5 c6 c7 c8 c9 c10 c14 c15 c16 c20 c21 c22 c23 c24 c25 c26 c27 c28 c29 c30 c31 c32 c33 c34 c35 c36 c37 c38 c39 c40 c41 c42 c43 c44 c45 c46 c47 c48 c49 c50 c51 c52 c53 c54 c55 c56 c57 c58 c59 c60 c61 c62 c63 c64 c65 c66 c67 c68 c69 c70 c71 c72 c73 c74 c75 c76 c77 c78 c79 c80 c81 c82 c83 c84 c85 c86 c87 c88 c89 c90 c91 c92 c93 c94 c95 c96 c97 c98 c99 c100 c101 c102 c103 c104 c105 c106 c107 c108 c109 c110 c111 c112 c113 c114 c115 c116 c117 c118 c119 c120 c121 c122 c123 c124 c125 c126 c127 c128 c129 c130 c131 c132 c133 c134 c135 c136 c137 c138 c139 c140 c141 c142 c143 c144 c145 : Value} (r m fr tq : Int) (w w5 : World) (b n k q z g : Nat) (r1 : 0 ≤ r) (r2 : r ≤ 255) (m1 : 0 ≤ m) (m2 : m ≤ 255)
    (hk : (k : Int) = 1 + r % 20) (hn : (n : Int) = m % 30) (hq : q = min n k) (hqk : q - 1 < k) (hz1 : z ≤ 8999) (hB : BB w w5 b (List.replicate (q - 1) itM) (1 + r % 20) [(g, 33, #[Value.int IntKind.i64 fr, Value.int IntKind.i64 tq, Value.string (zstr z), Value.int IntKind.u64 0])])
    (hc : (1 ≤ fr ∧ fr ≤ 7) ∧ 1 ≤ tq ∧ 7 < tq) : roomPutCode.wp Try.prog (bodyPost Try.prog Try.f5 fun e w' => e = .returned (.bool true) ∧ Below w.heap.size w w') ⟨#[c0, .int .u8 m, .int .i64 fr, .int .i64 tq, c4, c5, c6, c7, c8, c9, c10, .bool true, .int .i64 (1 + r % 20), .pointer (some ⟨b, 0, none⟩), c14, c15, c16, .int .i64 ((q : Nat) : Int), .int .i64 ((q - 1 : Nat) : Int), .pointer (some ⟨g, 0, none⟩), c20, c21, c22, c23, c24, c25, c26, c27, c28, c29, c30, c31, c32, c33, c34, c35, c36, c37, c38, c39, c40, c41, c42, c43, c44, c45, c46, c47, c48, c49, c50, c51, c52, c53, c54, c55, c56, c57, c58, c59, c60, c61, c62, c63, c64, c65, c66, c67, c68, c69, c70, c71, c72, c73, c74, c75, c76, c77, c78, c79, c80, c81, c82, c83, c84, c85, c86, c87, c88, c89, c90, c91, c92, c93, c94, c95, c96, c97, c98, c99, c100, c101, c102, c103, c104, c105, c106, c107, c108, c109, c110, c111, c112, c113, c114, c115, c116, c117, c118, c119, c120, c121, c122, c123, c124, c125, c126, c127, c128, c129, c130, c131, c132, c133, c134, c135, c136, c137, c138, c139, c140, c141, c142, c143, c144, c145], []⟩ w5 := by
  have hm : mayR fr tq z = false := by simp [mayR]; omega
  obtain ⟨hE, hL⟩ := room_last (q - 1) k (1 + r % 20) fr tq (zstr z) z (zstr_size z) hk hqk
  obtain ⟨l5, hl5⟩ : ∃ l5, putL (List.replicate (q - 1) itM) (1 + r % 20) ⟨fr, tq, zstr z, 0⟩ = l5 := ⟨_, rfl⟩
  rw [hl5, hm] at hL
  rw [hm] at hE
  have hsz := zstr_size z
  have E := hide hE
  have L := hide hL
  have L5 := hide hl5
  have HB := hide hB
  have HK := hide hk
  have HN := hide hn
  have HQ := hide hq
  have HM := hide hm
  have k0 := ((hB.kept (.head _)).cell 0).trans rfl
  have k1 := ((hB.kept (.head _)).cell 1).trans rfl
  have k2 := ((hB.kept (.head _)).cell 2).trans rfl
  have k3 := ((hB.kept (.head _)).cell 3).trans rfl
  skip
  clear hE hL hl5 hB hk hn hq hqk hm
  conv => arg 2; whnf
  go_wp2_with fail
  refine (bw_put ⟨fr, tq, zstr z, 0⟩ HB.out E.out L5.out).mono ?_
  rintro e w6 ⟨rfl, h6⟩
  have H6 := hide h6
  have k2 := ((h6.kept (.head _)).cell 2).trans rfl
  clear h6
  go_upto_region 19 with fail
  rename_i K1 hK1
  have HK1 := hide hK1
  clear hK1
  go_wp2_with fail
  refine HK1.out _ _ ?_
  exact roomEnd r m w w6 b n k q l5 _ false r1 r2 m1 m2 HK.out HN.out HQ.out (by simpa using L.out) H6.out

set_option maxRecDepth 100000 in
set_option maxHeartbeats 20000000 in
theorem roomPut4 {c0 c4 c5 c6 c7 c8 c9 c10 c14 c15 c16 c20 c21 c22 c23 c24 c25 c26 c27 c28 c29 c30 c31 c32 c33 c34 c35 c36 c37 c38 c39 c40 c41 c42 c43 c44 c45 c46 c47 c48 c49 c50 c51 c52 c53 c54 c55 c56 c57 c58 c59 c60 c61 c62 c63 c64 c65 c66 c67 c68 c69 c70 c71 c72 c73 c74 c75 c76 c77 c78 c79 c80 c81 c82 c83 c84 c85 c86 c87 c88 c89 c90 c91 c92 c93 c94 c95 c96 c97 c98 c99 c100 c101 c102 c103 c104 c105 c106 c107 c108 c109 c110 c111 c112 c113 c114 c115 c116 c117 c118 c119 c120 c121 c122 c123 c124 c125 c126 c127 c128 c129 c130 c131 c132 c133 c134 c135 c136 c137 c138 c139 c140 c141 c142 c143 c144 c145 : Value} (r m fr tq : Int) (w w5 : World) (b n k q z g : Nat) (r1 : 0 ≤ r) (r2 : r ≤ 255) (m1 : 0 ≤ m) (m2 : m ≤ 255)
    (hk : (k : Int) = 1 + r % 20) (hn : (n : Int) = m % 30) (hq : q = min n k) (hqk : q - 1 < k) (hz1 : z ≤ 8999) (hB : BB w w5 b (List.replicate (q - 1) itM) (1 + r % 20) [(g, 33, #[Value.int IntKind.i64 fr, Value.int IntKind.i64 tq, Value.string (zstr z), Value.int IntKind.u64 0])])
    (hc : (1 ≤ fr ∧ fr ≤ 7) ∧ (1 ≤ tq ∧ tq ≤ 7) ∧ (z : Int) < 1) : roomPutCode.wp Try.prog (bodyPost Try.prog Try.f5 fun e w' => e = .returned (.bool true) ∧ Below w.heap.size w w') ⟨#[c0, .int .u8 m, .int .i64 fr, .int .i64 tq, c4, c5, c6, c7, c8, c9, c10, .bool true, .int .i64 (1 + r % 20), .pointer (some ⟨b, 0, none⟩), c14, c15, c16, .int .i64 ((q : Nat) : Int), .int .i64 ((q - 1 : Nat) : Int), .pointer (some ⟨g, 0, none⟩), c20, c21, c22, c23, c24, c25, c26, c27, c28, c29, c30, c31, c32, c33, c34, c35, c36, c37, c38, c39, c40, c41, c42, c43, c44, c45, c46, c47, c48, c49, c50, c51, c52, c53, c54, c55, c56, c57, c58, c59, c60, c61, c62, c63, c64, c65, c66, c67, c68, c69, c70, c71, c72, c73, c74, c75, c76, c77, c78, c79, c80, c81, c82, c83, c84, c85, c86, c87, c88, c89, c90, c91, c92, c93, c94, c95, c96, c97, c98, c99, c100, c101, c102, c103, c104, c105, c106, c107, c108, c109, c110, c111, c112, c113, c114, c115, c116, c117, c118, c119, c120, c121, c122, c123, c124, c125, c126, c127, c128, c129, c130, c131, c132, c133, c134, c135, c136, c137, c138, c139, c140, c141, c142, c143, c144, c145], []⟩ w5 := by
  have hm : mayR fr tq z = false := by simp [mayR]; omega
  obtain ⟨hE, hL⟩ := room_last (q - 1) k (1 + r % 20) fr tq (zstr z) z (zstr_size z) hk hqk
  obtain ⟨l5, hl5⟩ : ∃ l5, putL (List.replicate (q - 1) itM) (1 + r % 20) ⟨fr, tq, zstr z, 0⟩ = l5 := ⟨_, rfl⟩
  rw [hl5, hm] at hL
  rw [hm] at hE
  have hsz := zstr_size z
  have E := hide hE
  have L := hide hL
  have L5 := hide hl5
  have HB := hide hB
  have HK := hide hk
  have HN := hide hn
  have HQ := hide hq
  have HM := hide hm
  have k0 := ((hB.kept (.head _)).cell 0).trans rfl
  have k1 := ((hB.kept (.head _)).cell 1).trans rfl
  have k2 := ((hB.kept (.head _)).cell 2).trans rfl
  have k3 := ((hB.kept (.head _)).cell 3).trans rfl
  skip
  clear hE hL hl5 hB hk hn hq hqk hm
  conv => arg 2; whnf
  go_wp2_with fail
  refine (bw_put ⟨fr, tq, zstr z, 0⟩ HB.out E.out L5.out).mono ?_
  rintro e w6 ⟨rfl, h6⟩
  have H6 := hide h6
  have k2 := ((h6.kept (.head _)).cell 2).trans rfl
  clear h6
  go_upto_region 19 with fail
  rename_i K1 hK1
  have HK1 := hide hK1
  clear hK1
  go_wp2_with fail
  refine HK1.out _ _ ?_
  exact roomEnd r m w w6 b n k q l5 _ false r1 r2 m1 m2 HK.out HN.out HQ.out (by simpa using L.out) H6.out

set_option maxRecDepth 100000 in
set_option maxHeartbeats 20000000 in
theorem roomPut5 {c0 c4 c5 c6 c7 c8 c9 c10 c14 c15 c16 c20 c21 c22 c23 c24 c25 c26 c27 c28 c29 c30 c31 c32 c33 c34 c35 c36 c37 c38 c39 c40 c41 c42 c43 c44 c45 c46 c47 c48 c49 c50 c51 c52 c53 c54 c55 c56 c57 c58 c59 c60 c61 c62 c63 c64 c65 c66 c67 c68 c69 c70 c71 c72 c73 c74 c75 c76 c77 c78 c79 c80 c81 c82 c83 c84 c85 c86 c87 c88 c89 c90 c91 c92 c93 c94 c95 c96 c97 c98 c99 c100 c101 c102 c103 c104 c105 c106 c107 c108 c109 c110 c111 c112 c113 c114 c115 c116 c117 c118 c119 c120 c121 c122 c123 c124 c125 c126 c127 c128 c129 c130 c131 c132 c133 c134 c135 c136 c137 c138 c139 c140 c141 c142 c143 c144 c145 : Value} (r m fr tq : Int) (w w5 : World) (b n k q z g : Nat) (r1 : 0 ≤ r) (r2 : r ≤ 255) (m1 : 0 ≤ m) (m2 : m ≤ 255)
    (hk : (k : Int) = 1 + r % 20) (hn : (n : Int) = m % 30) (hq : q = min n k) (hqk : q - 1 < k) (hz1 : z ≤ 8999) (hB : BB w w5 b (List.replicate (q - 1) itM) (1 + r % 20) [(g, 33, #[Value.int IntKind.i64 fr, Value.int IntKind.i64 tq, Value.string (zstr z), Value.int IntKind.u64 0])])
    (hc : (1 ≤ fr ∧ fr ≤ 7) ∧ (1 ≤ tq ∧ tq ≤ 7) ∧ 1 ≤ (z : Int) ∧ 8192 < (z : Int)) : roomPutCode.wp Try.prog (bodyPost Try.prog Try.f5 fun e w' => e = .returned (.bool true) ∧ Below w.heap.size w w') ⟨#[c0, .int .u8 m, .int .i64 fr, .int .i64 tq, c4, c5, c6, c7, c8, c9, c10, .bool true, .int .i64 (1 + r % 20), .pointer (some ⟨b, 0, none⟩), c14, c15, c16, .int .i64 ((q : Nat) : Int), .int .i64 ((q - 1 : Nat) : Int), .pointer (some ⟨g, 0, none⟩), c20, c21, c22, c23, c24, c25, c26, c27, c28, c29, c30, c31, c32, c33, c34, c35, c36, c37, c38, c39, c40, c41, c42, c43, c44, c45, c46, c47, c48, c49, c50, c51, c52, c53, c54, c55, c56, c57, c58, c59, c60, c61, c62, c63, c64, c65, c66, c67, c68, c69, c70, c71, c72, c73, c74, c75, c76, c77, c78, c79, c80, c81, c82, c83, c84, c85, c86, c87, c88, c89, c90, c91, c92, c93, c94, c95, c96, c97, c98, c99, c100, c101, c102, c103, c104, c105, c106, c107, c108, c109, c110, c111, c112, c113, c114, c115, c116, c117, c118, c119, c120, c121, c122, c123, c124, c125, c126, c127, c128, c129, c130, c131, c132, c133, c134, c135, c136, c137, c138, c139, c140, c141, c142, c143, c144, c145], []⟩ w5 := by
  have hm : mayR fr tq z = false := by simp [mayR]; omega
  obtain ⟨hE, hL⟩ := room_last (q - 1) k (1 + r % 20) fr tq (zstr z) z (zstr_size z) hk hqk
  obtain ⟨l5, hl5⟩ : ∃ l5, putL (List.replicate (q - 1) itM) (1 + r % 20) ⟨fr, tq, zstr z, 0⟩ = l5 := ⟨_, rfl⟩
  rw [hl5, hm] at hL
  rw [hm] at hE
  have hsz := zstr_size z
  have E := hide hE
  have L := hide hL
  have L5 := hide hl5
  have HB := hide hB
  have HK := hide hk
  have HN := hide hn
  have HQ := hide hq
  have HM := hide hm
  have k0 := ((hB.kept (.head _)).cell 0).trans rfl
  have k1 := ((hB.kept (.head _)).cell 1).trans rfl
  have k2 := ((hB.kept (.head _)).cell 2).trans rfl
  have k3 := ((hB.kept (.head _)).cell 3).trans rfl
  have hd : decide ((z : Int) ≤ 8192) = false := by simp; omega
  clear hE hL hl5 hB hk hn hq hqk hm
  conv => arg 2; whnf
  go_wp2_with fail
  refine (bw_put ⟨fr, tq, zstr z, 0⟩ HB.out E.out L5.out).mono ?_
  rintro e w6 ⟨rfl, h6⟩
  have H6 := hide h6
  have k2 := ((h6.kept (.head _)).cell 2).trans rfl
  clear h6
  go_upto_region 19 with fail
  rename_i K1 hK1
  have HK1 := hide hK1
  clear hK1
  go_wp2_with fail
  refine HK1.out _ _ ?_
  exact roomEnd r m w w6 b n k q l5 _ false r1 r2 m1 m2 HK.out HN.out HQ.out (by simpa using L.out) H6.out

set_option maxRecDepth 100000 in
set_option maxHeartbeats 20000000 in
theorem roomPut6 {c0 c4 c5 c6 c7 c8 c9 c10 c14 c15 c16 c20 c21 c22 c23 c24 c25 c26 c27 c28 c29 c30 c31 c32 c33 c34 c35 c36 c37 c38 c39 c40 c41 c42 c43 c44 c45 c46 c47 c48 c49 c50 c51 c52 c53 c54 c55 c56 c57 c58 c59 c60 c61 c62 c63 c64 c65 c66 c67 c68 c69 c70 c71 c72 c73 c74 c75 c76 c77 c78 c79 c80 c81 c82 c83 c84 c85 c86 c87 c88 c89 c90 c91 c92 c93 c94 c95 c96 c97 c98 c99 c100 c101 c102 c103 c104 c105 c106 c107 c108 c109 c110 c111 c112 c113 c114 c115 c116 c117 c118 c119 c120 c121 c122 c123 c124 c125 c126 c127 c128 c129 c130 c131 c132 c133 c134 c135 c136 c137 c138 c139 c140 c141 c142 c143 c144 c145 : Value} (r m fr tq : Int) (w w5 : World) (b n k q z g : Nat) (r1 : 0 ≤ r) (r2 : r ≤ 255) (m1 : 0 ≤ m) (m2 : m ≤ 255)
    (hk : (k : Int) = 1 + r % 20) (hn : (n : Int) = m % 30) (hq : q = min n k) (hqk : q - 1 < k) (hz1 : z ≤ 8999) (hB : BB w w5 b (List.replicate (q - 1) itM) (1 + r % 20) [(g, 33, #[Value.int IntKind.i64 fr, Value.int IntKind.i64 tq, Value.string (zstr z), Value.int IntKind.u64 0])])
    (hc : (1 ≤ fr ∧ fr ≤ 7) ∧ (1 ≤ tq ∧ tq ≤ 7) ∧ 1 ≤ (z : Int) ∧ (z : Int) ≤ 8192) : roomPutCode.wp Try.prog (bodyPost Try.prog Try.f5 fun e w' => e = .returned (.bool true) ∧ Below w.heap.size w w') ⟨#[c0, .int .u8 m, .int .i64 fr, .int .i64 tq, c4, c5, c6, c7, c8, c9, c10, .bool true, .int .i64 (1 + r % 20), .pointer (some ⟨b, 0, none⟩), c14, c15, c16, .int .i64 ((q : Nat) : Int), .int .i64 ((q - 1 : Nat) : Int), .pointer (some ⟨g, 0, none⟩), c20, c21, c22, c23, c24, c25, c26, c27, c28, c29, c30, c31, c32, c33, c34, c35, c36, c37, c38, c39, c40, c41, c42, c43, c44, c45, c46, c47, c48, c49, c50, c51, c52, c53, c54, c55, c56, c57, c58, c59, c60, c61, c62, c63, c64, c65, c66, c67, c68, c69, c70, c71, c72, c73, c74, c75, c76, c77, c78, c79, c80, c81, c82, c83, c84, c85, c86, c87, c88, c89, c90, c91, c92, c93, c94, c95, c96, c97, c98, c99, c100, c101, c102, c103, c104, c105, c106, c107, c108, c109, c110, c111, c112, c113, c114, c115, c116, c117, c118, c119, c120, c121, c122, c123, c124, c125, c126, c127, c128, c129, c130, c131, c132, c133, c134, c135, c136, c137, c138, c139, c140, c141, c142, c143, c144, c145], []⟩ w5 := by
  have hm : mayR fr tq z = true := by simp [mayR]; omega
  obtain ⟨hE, hL⟩ := room_last (q - 1) k (1 + r % 20) fr tq (zstr z) z (zstr_size z) hk hqk
  obtain ⟨l5, hl5⟩ : ∃ l5, putL (List.replicate (q - 1) itM) (1 + r % 20) ⟨fr, tq, zstr z, 0⟩ = l5 := ⟨_, rfl⟩
  rw [hl5, hm] at hL
  rw [hm] at hE
  have hsz := zstr_size z
  have E := hide hE
  have L := hide hL
  have L5 := hide hl5
  have HB := hide hB
  have HK := hide hk
  have HN := hide hn
  have HQ := hide hq
  have HM := hide hm
  have k0 := ((hB.kept (.head _)).cell 0).trans rfl
  have k1 := ((hB.kept (.head _)).cell 1).trans rfl
  have k2 := ((hB.kept (.head _)).cell 2).trans rfl
  have k3 := ((hB.kept (.head _)).cell 3).trans rfl
  skip
  clear hE hL hl5 hB hk hn hq hqk hm
  conv => arg 2; whnf
  go_wp2_with fail
  refine (bw_put ⟨fr, tq, zstr z, 0⟩ HB.out E.out L5.out).mono ?_
  rintro e w6 ⟨rfl, h6⟩
  have H6 := hide h6
  have k2 := ((h6.kept (.head _)).cell 2).trans rfl
  clear h6
  go_upto_region 19 with fail
  rename_i K1 hK1
  have HK1 := hide hK1
  clear hK1
  go_wp2_with fail
  refine HK1.out _ _ ?_
  exact roomEnd r m w w6 b n k q l5 _ true r1 r2 m1 m2 HK.out HN.out HQ.out (by simpa using L.out) H6.out

theorem roomPut {c0 c4 c5 c6 c7 c8 c9 c10 c14 c15 c16 c20 c21 c22 c23 c24 c25 c26 c27 c28 c29 c30 c31 c32 c33 c34 c35 c36 c37 c38 c39 c40 c41 c42 c43 c44 c45 c46 c47 c48 c49 c50 c51 c52 c53 c54 c55 c56 c57 c58 c59 c60 c61 c62 c63 c64 c65 c66 c67 c68 c69 c70 c71 c72 c73 c74 c75 c76 c77 c78 c79 c80 c81 c82 c83 c84 c85 c86 c87 c88 c89 c90 c91 c92 c93 c94 c95 c96 c97 c98 c99 c100 c101 c102 c103 c104 c105 c106 c107 c108 c109 c110 c111 c112 c113 c114 c115 c116 c117 c118 c119 c120 c121 c122 c123 c124 c125 c126 c127 c128 c129 c130 c131 c132 c133 c134 c135 c136 c137 c138 c139 c140 c141 c142 c143 c144 c145 : Value} (r m fr tq : Int) (w w5 : World) (b n k q z g : Nat) (r1 : 0 ≤ r) (r2 : r ≤ 255) (m1 : 0 ≤ m) (m2 : m ≤ 255)
    (hk : (k : Int) = 1 + r % 20) (hn : (n : Int) = m % 30) (hq : q = min n k) (hqk : q - 1 < k) (hz1 : z ≤ 8999) (hB : BB w w5 b (List.replicate (q - 1) itM) (1 + r % 20) [(g, 33, #[Value.int IntKind.i64 fr, Value.int IntKind.i64 tq, Value.string (zstr z), Value.int IntKind.u64 0])]) : roomPutCode.wp Try.prog (bodyPost Try.prog Try.f5 fun e w' => e = .returned (.bool true) ∧ Below w.heap.size w w') ⟨#[c0, .int .u8 m, .int .i64 fr, .int .i64 tq, c4, c5, c6, c7, c8, c9, c10, .bool true, .int .i64 (1 + r % 20), .pointer (some ⟨b, 0, none⟩), c14, c15, c16, .int .i64 ((q : Nat) : Int), .int .i64 ((q - 1 : Nat) : Int), .pointer (some ⟨g, 0, none⟩), c20, c21, c22, c23, c24, c25, c26, c27, c28, c29, c30, c31, c32, c33, c34, c35, c36, c37, c38, c39, c40, c41, c42, c43, c44, c45, c46, c47, c48, c49, c50, c51, c52, c53, c54, c55, c56, c57, c58, c59, c60, c61, c62, c63, c64, c65, c66, c67, c68, c69, c70, c71, c72, c73, c74, c75, c76, c77, c78, c79, c80, c81, c82, c83, c84, c85, c86, c87, c88, c89, c90, c91, c92, c93, c94, c95, c96, c97, c98, c99, c100, c101, c102, c103, c104, c105, c106, c107, c108, c109, c110, c111, c112, c113, c114, c115, c116, c117, c118, c119, c120, c121, c122, c123, c124, c125, c126, c127, c128, c129, c130, c131, c132, c133, c134, c135, c136, c137, c138, c139, c140, c141, c142, c143, c144, c145], []⟩ w5 := by
  have hc : (fr < 1) ∨ (1 ≤ fr ∧ 7 < fr) ∨ ((1 ≤ fr ∧ fr ≤ 7) ∧ tq < 1) ∨ ((1 ≤ fr ∧ fr ≤ 7) ∧ 1 ≤ tq ∧ 7 < tq) ∨ ((1 ≤ fr ∧ fr ≤ 7) ∧ (1 ≤ tq ∧ tq ≤ 7) ∧ (z : Int) < 1) ∨ ((1 ≤ fr ∧ fr ≤ 7) ∧ (1 ≤ tq ∧ tq ≤ 7) ∧ 1 ≤ (z : Int) ∧ 8192 < (z : Int)) ∨ ((1 ≤ fr ∧ fr ≤ 7) ∧ (1 ≤ tq ∧ tq ≤ 7) ∧ 1 ≤ (z : Int) ∧ (z : Int) ≤ 8192) := by omega
  rcases hc with hc | hc | hc | hc | hc | hc | hc
  · exact roomPut0 r m fr tq w w5 b n k q z g r1 r2 m1 m2 hk hn hq hqk hz1 hB hc
  · exact roomPut1 r m fr tq w w5 b n k q z g r1 r2 m1 m2 hk hn hq hqk hz1 hB hc
  · exact roomPut2 r m fr tq w w5 b n k q z g r1 r2 m1 m2 hk hn hq hqk hz1 hB hc
  · exact roomPut3 r m fr tq w w5 b n k q z g r1 r2 m1 m2 hk hn hq hqk hz1 hB hc
  · exact roomPut4 r m fr tq w w5 b n k q z g r1 r2 m1 m2 hk hn hq hqk hz1 hB hc
  · exact roomPut5 r m fr tq w w5 b n k q z g r1 r2 m1 m2 hk hn hq hqk hz1 hB hc
  · exact roomPut6 r m fr tq w w5 b n k q z g r1 r2 m1 m2 hk hn hq hqk hz1 hB hc

set_option maxRecDepth 100000 in
set_option maxHeartbeats 4000000 in
theorem room_law (r m fr tq sz : Int) (w : World) (r0 : 0 ≤ r ∧ r ≤ 255) (m0 : 0 ≤ m ∧ m ≤ 255) (s0 : 0 ≤ sz ∧ sz ≤ 65535) :
    Calls Try.prog 5 #[.int .u8 r, .int .u8 m, .int .i64 fr, .int .i64 tq, .int .u16 sz] w fun e w' => e = .returned (.bool true) ∧ Below w.heap.size w w' := by
  obtain ⟨k, hk⟩ : ∃ k : Nat, (k : Int) = 1 + r % 20 := ⟨(1 + r % 20).toNat, by omega⟩
  obtain ⟨n, hn⟩ : ∃ n : Nat, (n : Int) = m % 30 := ⟨(m % 30).toNat, by omega⟩
  have hk1 : 1 ≤ k ∧ k ≤ 20 := by omega
  have hn1 : n ≤ 29 := by omega
  obtain ⟨r1, r2⟩ := r0
  obtain ⟨m1, m2⟩ := m0
  have K := hide hk
  have N := hide hn
  clear hk hn
  go_enter Try.func5, Try.ntmps5
  go_wp2_with fail
  refine (examples_any _).mono ?_
  rintro e w1 ⟨rfl, hb1⟩
  go_wp2_with fail
  refine (bw_new (1 + r % 20) w w1 hb1 (by omega) (by omega)).mono ?_
  rintro e w2 ⟨b, rfl, h2⟩
  have H2 := hide h2
  clear h2 hb1
  go_wp2_with fail
  go_loopg [15] (n + 1) (fun q i wr => ∃ j : Nat, i = .int .i64 (j : Int) ∧ j ≤ n ∧ q = n + 1 - j ∧ BB w wr b (roomL j k) (1 + r % 20) [])
  case atStart => exact ⟨0, rfl, by omega, by omega, H2.out⟩
  case round =>
    obtain ⟨j, rfl, hj, rfl, hbb⟩ := hrel
    have HB := hide hbb
    clear hbb
    by_cases hlt : j < n
    · obtain ⟨hE, hL⟩ := room_put j k (1 + r % 20) K.out
      have j1 : (j : Int) < m % 30 := by have := N.out; omega
      by_cases hjk : j < k
      · rw [if_pos hjk] at hE
        have HE := hide hE
        have HL := hide hL
        have j2 : (j : Int) < 1 + r % 20 := by have := K.out; omega
        clear hE hL
        go_wp2_with fail
        refine (bw_put itM HB.out HE.out HL.out).mono ?_
        rintro e w3 ⟨rfl, h3⟩
        have H3 := hide h3
        clear h3
        go_wp2_with fail
        go_roundg (n + 1 - (j + 1))
        case measure => omega
        case rel => exact ⟨j + 1, by go_num, by omega, rfl, H3.out⟩
      · rw [if_neg hjk] at hE
        have HE := hide hE
        have HL := hide hL
        have j2 : 1 + r % 20 ≤ (j : Int) := by have := K.out; omega
        clear hE hL hjk
        go_wp2_with fail
        refine (bw_put itM HB.out HE.out HL.out).mono ?_
        rintro e w3 ⟨rfl, h3⟩
        have H3 := hide h3
        clear h3
        go_wp2_with fail
        go_roundg (n + 1 - (j + 1))
        case measure => omega
        case rel => exact ⟨j + 1, by go_num, by omega, rfl, H3.out⟩
    · obtain rfl : j = n := by omega
      have j1 : m % 30 ≤ (j : Int) := by have := N.out; omega
      obtain ⟨x1, e1, hx1, he1, hl1⟩ := room_take j k
      obtain ⟨z, hz⟩ : ∃ z : Nat, (z : Int) = sz % 9000 := ⟨(sz % 9000).toNat, by omega⟩
      have hz1 : z ≤ 8999 := by omega
      have Z := hide hz
      have hlen : (roomL j k).length = min j k := by simp [roomL]
      obtain ⟨i0, hi0, hz0, hzs1, hzs2⟩ := info_parts u8_info
      have X1 := hide hx1
      have E1 := hide he1
      have L1 := hide hl1
      have HLEN := hide hlen
      clear hx1 he1 hl1 hlen hz
      go_wp2_with fail
      refine (bw_len HB.out).mono ?_
      rw [HLEN.out]
      rintro e w3 ⟨rfl, rfl⟩
      go_wp2_with fail
      refine (bw_take 0 HB.out X1.out E1.out L1.out).mono ?_
      rintro e w3 ⟨rfl, h3⟩
      have H3 := hide h3
      clear h3
      go_wp2_with fail
      refine (bw_len H3.out).mono ?_
      rw [List.length_replicate]
      rintro e w4 ⟨rfl, rfl⟩
      go_upto_region 17 with fail
      rename_i K1 hK1
      have HK1 := hide hK1
      clear hK1
      go_wp2_with (at_make; (refine wpList_make_full _ rfl (.tmp 74) (.tmp 74) 58 rfl w3.heap.size 5 i0 (.int .u8 0) 1 Try.underlying58 hi0 hz0 hzs1 .i64 .i64 (sz % 9000) (sz % 9000) z rfl rfl Z.out.symm Z.out.symm (by rw [hzs2]; omega) (by simp only [maxLen]; omega) (Nat.le_refl _) ?_); intro w4 hown4 hgr4; have hconv := zero_conv hown4; have H4 := hide (H3.out.below (grown_none_below hgr4)); clear hown4 hgr4)
      have H5 := hide (H4.out.push #[.int .i64 fr, .int .i64 tq, .string (zstr z), .int .u64 0] 33)
      refine HK1.out _ _ ?_
      exact roomPut r m fr tq w _ b j k (min j k) z w4.heap.size r1 r2 m1 m2 K.out N.out rfl (by omega) hz1 H5.out

end Go.Proofs.Ytioehmlaaimeaaa
