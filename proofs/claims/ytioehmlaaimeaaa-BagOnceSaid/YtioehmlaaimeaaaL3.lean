/-
  Chapter 21: BagOnce: a round of its second loop, walked through its text.
-/
import Derived.Test.YtioehmlaaimeaaaQ
import Derived.Test.YtioehmlaaimeaaaO
import Derived.Test.YtioehmlaaimeaaaRO
import Derived.Deep.DeepCutAuto
import Derived.Deep.CutBlock
import Derived.Deep.RegionLaw
namespace Go.Proofs.Ytioehmlaaimeaaa
open Go.RowKit
set_option linter.unusedVariables false

/-- The cells of what has been taken. -/
def tkA (tk : Nat → Bool) : Array Value := ((List.range 21).map fun j => Value.bool (tk j)).toArray
theorem tkA_at (tk : Nat → Bool) (j : Nat) (h : j < 21) : (tkA tk)[j]? = some (.bool (tk j)) := by
  simp [tkA, List.getElem?_range h]
theorem tkA_size (tk : Nat → Bool) : (tkA tk).size = 21 := by simp [tkA]
theorem tkA_none (tk : Nat → Bool) (j : Nat) (h : ¬ j < 21) : (tkA tk)[j]? = none := Array.getElem?_eq_none (by rw [tkA_size]; omega)
theorem tkA_set (tk : Nat → Bool) (j : Nat) : (tkA tk).setIfInBounds j (.bool true) = tkA (fun k => if k = j then true else tk k) := by
  apply Array.ext_getElem?
  intro k
  rw [Array.getElem?_setIfInBounds, tkA_size]
  by_cases hk : k < 21
  · rw [tkA_at _ _ hk, tkA_at _ _ hk]
    by_cases e : j = k
    · subst e
      simp [hk]
    · have e2 : ¬ k = j := fun h => e h.symm
      simp [e, e2]
  · rw [tkA_none _ _ hk, tkA_none _ _ hk]
    by_cases e : j = k
    · subst e
      simp [hk]
    · simp [e]
theorem itK_val (j : Nat) : itK j = ⟨1, 2, byteS j, j⟩ := rfl

noncomputable def oncePassCode : Code := codeAt ((Try.f4.body).getD .skip) [1, 1, 1, 1, 1, 1, 1, 1, 0, 1, 0, 0, 1, 0, 0]

set_option maxRecDepth 100000 in
set_option maxHeartbeats 20000000 in
theorem oncePass {c0 c2 c3 c4 c8 c9 c12 c13 c14 c15 c16 c17 c18 c19 c20 c21 c22 c23 c24 c25 c26 c27 c28 c29 c30 c31 c32 c33 c34 c35 c36 c37 c38 c39 c40 c41 c42 c43 c44 c45 c46 c47 c48 c49 c50 c51 c52 c53 c54 c55 c56 c57 c58 c59 c60 c61 c62 c63 c64 c65 c66 c67 c68 c69 c70 c71 c72 c73 c74 c75 c76 c77 c78 c79 c80 c81 c82 c83 c84 c85 c86 c87 c88 c89 c90 c91 c92 c93 c94 c95 c96 c97 c98 c99 c100 c101 c102 c103 c104 c105 c106 c107 c108 c109 c110 c111 c112 c113 c114 c115 c116 c117 c118 c119 c120 c121 c122 c123 c124 c125 c126 c127 c128 c129 c130 c131 c132 c133 c134 c135 c136 c137 c138 c139 c140 c141 c142 c143 : Value} (w wr : World) (b g i n len cp : Nat) (A : Option Addr) (p : Int) (js : List Nat) (tk : Nat → Bool) (hi : i < n) (hn : n ≤ 20) (hlen : len ≤ 9223372036854775807)
    (hp : (len ≤ i ∧ p = 0) ∨ (i < len ∧ 0 ≤ p ∧ p ≤ 255 ∧ ∃ ad, A = some ad ∧ ad.block < w.heap.size ∧ wr.cell? (ad.add i) = some (.int .u8 p)))
    (hL : Left n i js tk) (hB : BB w wr b (onceL js) 20 [(g, 4, tkA tk)]) (hg : w.heap.size ≤ g) (K : Act → World → Prop) (Q : Exit → Act → World → Prop)
    (hK : ∀ (u4 u12 u13 u14 u15 u16 u17 u18 u58 u59 u60 u61 u62 u63 u64 u65 u66 u67 u68 u69 u70 u71 u72 u73 u74 u75 u76 u77 u78 u79 u80 u81 u82 u83 u84 u85 u86 u87 u88 u89 u90 u91 u92 u93 u94 u95 u96 u97 u98 u99 u100 u101 u102 u103 u104 u105 u106 u107 u108 u109 u110 u111 u112 u113 u114 u115 u116 u117 u118 u119 u120 u121 u122 u123 u124 u125 u126 u127 u128 : Value) (wx : World) (js' : List Nat) (tk' : Nat → Bool), Left n (i + 1) js' tk' → BB w wx b (onceL js') 20 [(g, 4, tkA tk')] → K ⟨#[c0, .slice A len cp, c2, c3, u4, .bool true, .int .i64 (n : Int), .pointer (some ⟨b, 0, none⟩), c8, c9, .slice (some ⟨g, 0, none⟩) 21 21, .int .i64 (i : Int), u12, u13, u14, u15, u16, u17, u18, c19, c20, c21, c22, c23, c24, c25, c26, c27, c28, c29, c30, c31, c32, c33, c34, c35, c36, c37, c38, c39, c40, c41, c42, c43, c44, c45, c46, c47, c48, c49, c50, c51, c52, c53, c54, c55, c56, c57, u58, u59, u60, u61, u62, u63, u64, u65, u66, u67, u68, u69, u70, u71, u72, u73, u74, u75, u76, u77, u78, u79, u80, u81, u82, u83, u84, u85, u86, u87, u88, u89, u90, u91, u92, u93, u94, u95, u96, u97, u98, u99, u100, u101, u102, u103, u104, u105, u106, u107, u108, u109, u110, u111, u112, u113, u114, u115, u116, u117, u118, u119, u120, u121, u122, u123, u124, u125, u126, u127, u128, c129, c130, c131, c132, c133, c134, c135, c136, c137, c138, c139, c140, c141, c142, c143], []⟩ wx) :
    oncePassCode.wp Try.prog (Exit.then K Q) ⟨#[c0, .slice A len cp, c2, c3, c4, .bool true, .int .i64 (n : Int), .pointer (some ⟨b, 0, none⟩), c8, c9, .slice (some ⟨g, 0, none⟩) 21 21, .int .i64 (i : Int), c12, c13, c14, c15, c16, c17, c18, c19, c20, c21, c22, c23, c24, c25, c26, c27, c28, c29, c30, c31, c32, c33, c34, c35, c36, c37, c38, c39, c40, c41, c42, c43, c44, c45, c46, c47, c48, c49, c50, c51, c52, c53, c54, c55, c56, c57, c58, c59, c60, c61, c62, c63, c64, c65, c66, c67, c68, c69, c70, c71, c72, c73, c74, c75, c76, c77, c78, c79, c80, c81, c82, c83, c84, c85, c86, c87, c88, c89, c90, c91, c92, c93, c94, c95, c96, c97, c98, c99, c100, c101, c102, c103, c104, c105, c106, c107, c108, c109, c110, c111, c112, c113, c114, c115, c116, c117, c118, c119, c120, c121, c122, c123, c124, c125, c126, c127, c128, c129, c130, c131, c132, c133, c134, c135, c136, c137, c138, c139, c140, c141, c142, c143], []⟩ wr := by
  have HK := hide hK
  have HB := hide hB
  have HG := hide hg
  have HL := hide hL
  have hjs : js.length = n - i := by have := hL.len; omega
  have hne : js ≠ [] := fun e => by rw [e] at hjs; simp at hjs; omega
  have hp0 : 0 ≤ p := by rcases hp with ⟨_, h⟩ | ⟨_, h, _⟩ <;> omega
  obtain ⟨hE, hN, hk⟩ := pickO hp0 hne
  obtain ⟨k, hkk⟩ : ∃ k, k = (p % js.length).toNat := ⟨_, rfl⟩
  rw [← hkk] at hN hk
  obtain ⟨hx1, ht1, hla⟩ := takeO hE hN hk
  have hOld := oldR_once js hne
  obtain ⟨m, hm⟩ : ∃ m, m = minL js := ⟨_, rfl⟩
  obtain ⟨ks, hks⟩ : ∃ ks, ks = turnJ js k ++ [js[k]] := ⟨_, rfl⟩
  have hperm : ks.Perm js := by rw [hks]; exact turnJ_perm hk
  have hklen : ks.length = js.length := hperm.length_eq
  have hkne : ks ≠ [] := fun e => by rw [e] at hklen; simp at hklen; exact hne (List.eq_nil_of_length_eq_zero hklen.symm)
  have hOld2 := oldR_once ks hkne
  rw [minL_perm hperm hne, ← hm] at hOld2
  rw [← hm] at hOld
  rw [← hks] at hla
  obtain ⟨hE2, hN2, hk2⟩ := pickO hp0 hkne
  rw [hklen, ← hkk] at hN2
  have hk3 : k < ks.length := by omega
  obtain ⟨hx, ht, hl2⟩ := takeO hE2 hN2 hk3
  obtain ⟨v, hv⟩ : ∃ v, v = ks[k] := ⟨_, rfl⟩
  obtain ⟨hvn, hvf, hLeft⟩ := hL.taken hperm hk3
  rw [← hv] at hx hvn hvf hLeft
  rw [itK_val] at hx hOld hOld2
  have O1 := hide hOld
  have E1 := hide hE
  have LA := hide hla
  have O2 := hide hOld2
  have X2 := hide hx
  have E2 := hide hE2
  have T2 := hide ht
  have HLF := hide hLeft
  have hbs := byteS_size v
  have hbq := byteS_get v (by omega)
  have hq33 := fun (W : World) => neq_item ⟨1, 2, byteS m, m⟩ ⟨1, 2, byteS m, m⟩ W
  have hgd := fun (op : BinOp) (o1 o2 : Operand) (xs ys : Array Value) (W : World) => guard_item op o1 o2 xs ys W
  have hse := eqIt_self ⟨1, 2, byteS m, m⟩
  have v21 : (v : Int) < 21 := by omega
  have v22 : (v : Int) < n := by omega
  clear hx1 ht1
  clear hK hB hg hL hjs hE hN hk hkk hla hOld hm hks hperm hklen hkne hOld2 hE2 hN2 hk2 hk3 hx ht hl2 hv hLeft hne
  conv => arg 2; whnf
  rcases hp with ⟨hp1, hp2⟩ | ⟨hp1, hp2, hp3, ad, rfl, hpb, hpc⟩
  · subst hp2
    have q1 : (len : Int) ≤ i := by omega
    go_wp2_with fail
    refine (bw_oldest HB.out O1.out).mono ?_
    rintro e w3 ⟨rfl, h3⟩
    have H3 := hide (h3.push #[.int .i64 1, .int .i64 2, .string (byteS m), .int .u64 m] 33)
    clear h3
    go_wp2_with fail
    refine (bw_last _ H3.out E1.out LA.out).mono ?_
    rintro e w4 ⟨rfl, h4⟩
    have H4 := hide h4
    clear h4
    go_wp2_with fail
    refine (bw_oldest H4.out O2.out).mono ?_
    rintro e w5 ⟨rfl, h5⟩
    have H5 := hide (h5.push #[.int .i64 1, .int .i64 2, .string (byteS m), .int .u64 m] 33)
    clear h5
    go_wp2_with fail
    refine (bw_take _ H5.out X2.out E2.out T2.out).mono ?_
    rintro e w6 ⟨rfl, h6⟩
    have H6 := hide h6
    have k10 := ((h6.kept (.tail _ (.head _))).cell 0).trans rfl
    have k11 := ((h6.kept (.tail _ (.head _))).cell 1).trans rfl
    have k12 := ((h6.kept (.tail _ (.head _))).cell 2).trans rfl
    have k13 := ((h6.kept (.tail _ (.head _))).cell 3).trans rfl
    have k20 := ((h6.kept (.head _)).cell 0).trans rfl
    have k21 := ((h6.kept (.head _)).cell 1).trans rfl
    have k22 := ((h6.kept (.head _)).cell 2).trans rfl
    have k23 := ((h6.kept (.head _)).cell 3).trans rfl
    have kt := (h6.kept (.tail _ (.tail _ (.head _))))
    have kv := (kt.cell v).trans (tkA_at tk v (by omega))
    rw [hvf] at kv
    have kf := kt.frozen v
    have l1 := (h6.kept (.tail _ (.head _))).lt
    have l2 := (h6.kept (.head _)).lt
    have l3 := kt.lt
    clear h6 kt
    go_wp2_with fail
    have S1 := (H6.out.less (K' := [(g, 4, tkA tk)]) (by intro q hq; exact List.mem_cons_of_mem _ (List.mem_cons_of_mem _ hq))).set (g := g) (t := 4) (cs := tkA tk) (.head _) (by intro q hq _; simpa using hq) HG.out v (.bool true)
    have S2 : BB w (w6.setCell ⟨g, v, none⟩ (.bool true)) b (onceL (turnJ ks k)) 20 [(g, 4, tkA (fun j => if j = v then true else tk j))] := by
      have e : ([(g, 4, tkA tk)] : List Kept).map (fun q => if q.1 = g then (g, 4, (tkA tk).setIfInBounds v (.bool true)) else q) = [(g, 4, tkA (fun j => if j = v then true else tk j))] := by simp [tkA_set]
      rw [e] at S1
      exact S1
    exact HK.out _ _ _ _ _ _ _ _ _ _ _ _ _ _ _ _ _ _ _ _ _ _ _ _ _ _ _ _ _ _ _ _ _ _ _ _ _ _ _ _ _ _ _ _ _ _ _ _ _ _ _ _ _ _ _ _ _ _ _ _ _ _ _ _ _ _ _ _ _ _ _ _ _ _ _ _ _ _ _ _ _ _ HLF.out (S2.alloc _)
  · have q1 : (i : Int) < len := by omega
    go_wp2_with fail
    refine (bw_oldest HB.out O1.out).mono ?_
    rintro e w3 ⟨rfl, h3⟩
    have H3 := hide (h3.push #[.int .i64 1, .int .i64 2, .string (byteS m), .int .u64 m] 33)
    clear h3
    go_wp2_with fail
    refine (bw_last _ H3.out E1.out LA.out).mono ?_
    rintro e w4 ⟨rfl, h4⟩
    have H4 := hide h4
    clear h4
    go_wp2_with fail
    refine (bw_oldest H4.out O2.out).mono ?_
    rintro e w5 ⟨rfl, h5⟩
    have H5 := hide (h5.push #[.int .i64 1, .int .i64 2, .string (byteS m), .int .u64 m] 33)
    clear h5
    go_wp2_with fail
    refine (bw_take _ H5.out X2.out E2.out T2.out).mono ?_
    rintro e w6 ⟨rfl, h6⟩
    have H6 := hide h6
    have k10 := ((h6.kept (.tail _ (.head _))).cell 0).trans rfl
    have k11 := ((h6.kept (.tail _ (.head _))).cell 1).trans rfl
    have k12 := ((h6.kept (.tail _ (.head _))).cell 2).trans rfl
    have k13 := ((h6.kept (.tail _ (.head _))).cell 3).trans rfl
    have k20 := ((h6.kept (.head _)).cell 0).trans rfl
    have k21 := ((h6.kept (.head _)).cell 1).trans rfl
    have k22 := ((h6.kept (.head _)).cell 2).trans rfl
    have k23 := ((h6.kept (.head _)).cell 3).trans rfl
    have kt := (h6.kept (.tail _ (.tail _ (.head _))))
    have kv := (kt.cell v).trans (tkA_at tk v (by omega))
    rw [hvf] at kv
    have kf := kt.frozen v
    have l1 := (h6.kept (.tail _ (.head _))).lt
    have l2 := (h6.kept (.head _)).lt
    have l3 := kt.lt
    clear h6 kt
    go_wp2_with fail
    have S1 := (H6.out.less (K' := [(g, 4, tkA tk)]) (by intro q hq; exact List.mem_cons_of_mem _ (List.mem_cons_of_mem _ hq))).set (g := g) (t := 4) (cs := tkA tk) (.head _) (by intro q hq _; simpa using hq) HG.out v (.bool true)
    have S2 : BB w (w6.setCell ⟨g, v, none⟩ (.bool true)) b (onceL (turnJ ks k)) 20 [(g, 4, tkA (fun j => if j = v then true else tk j))] := by
      have e : ([(g, 4, tkA tk)] : List Kept).map (fun q => if q.1 = g then (g, 4, (tkA tk).setIfInBounds v (.bool true)) else q) = [(g, 4, tkA (fun j => if j = v then true else tk j))] := by simp [tkA_set]
      rw [e] at S1
      exact S1
    exact HK.out _ _ _ _ _ _ _ _ _ _ _ _ _ _ _ _ _ _ _ _ _ _ _ _ _ _ _ _ _ _ _ _ _ _ _ _ _ _ _ _ _ _ _ _ _ _ _ _ _ _ _ _ _ _ _ _ _ _ _ _ _ _ _ _ _ _ _ _ _ _ _ _ _ _ _ _ _ _ _ _ _ _ HLF.out (S2.alloc _)

theorem once_put (j : Nat) (hj : j < 20) : putE (onceL (List.range j)) 20 (itK j) = 0 ∧ putL (onceL (List.range j)) 20 (itK j) = onceL (List.range (j + 1)) := by
  have hm : mayI (itK j) = true := by
    rw [itK_val]
    unfold mayI
    simp only [byteS_size]
    rfl
  have hE : putE (onceL (List.range j)) 20 (itK j) = 0 := by
    unfold putE
    rw [hm, if_pos rfl, onceL_len, List.length_range, if_pos (by omega)]
  refine ⟨hE, ?_⟩
  rw [putL, if_pos hE, List.range_succ]
  simp [onceL]
theorem left_start (n : Nat) : Left n 0 (List.range n) (fun _ => false) :=
  ⟨List.nodup_range, fun j hj => List.mem_range.1 hj, by simp, fun _ _ => rfl⟩
theorem tk_start : (madeCells (Value.bool false).cells (21 * 1)) = tkA (fun _ => false) := by
  apply Array.ext'
  have e : (madeCells (Value.bool false).cells (21 * 1)).toList = List.replicate (21 * 1) (.bool false) := toList_madeCells_one _ _
  rw [e]
  rfl
theorem bool_info : (Try.prog.info? 4).map (fun i => (i.zero, i.size, i.bytes)) = some (some (.bool false), 1, 1) := by kernel_rfl
noncomputable def onceEndCode : Code := codeAt ((Try.f4.body).getD .skip) [1, 1, 1, 1, 1, 1, 1]

set_option maxRecDepth 100000 in
set_option maxHeartbeats 20000000 in
theorem onceEnd {c0 c2 c3 c4 c8 c9 c10 c11 c12 c13 c14 c15 c16 c17 c18 c19 c20 c21 c22 c23 c24 c25 c26 c27 c28 c29 c30 c31 c32 c33 c34 c35 c36 c37 c38 c39 c40 c41 c42 c43 c44 c45 c46 c47 c48 c49 c50 c51 c52 c53 c54 c55 c56 c57 c58 c59 c60 c61 c62 c63 c64 c65 c66 c67 c68 c69 c70 c71 c72 c73 c74 c75 c76 c77 c78 c79 c80 c81 c82 c83 c84 c85 c86 c87 c88 c89 c90 c91 c92 c93 c94 c95 c96 c97 c98 c99 c100 c101 c102 c103 c104 c105 c106 c107 c108 c109 c110 c111 c112 c113 c114 c115 c116 c117 c118 c119 c120 c121 c122 c123 c124 c125 c126 c127 c128 c129 c130 c131 c132 c133 c134 c135 c136 c137 c138 c139 c140 c141 c142 c143 : Value} (w wr : World) (b n len cp : Nat) (A : Option Addr) (zs : List Int) (hn : n ≤ 20) (hlen : len ≤ 9223372036854775807) (hr : Reads w w.heap.size 1 A len (zs.map (.int .u8)))
    (hz : ∀ k, 0 ≤ zs.getD k 0 ∧ zs.getD k 0 ≤ 255) (hB : BB w wr b (onceL (List.range n)) 20 []) :
    onceEndCode.wp Try.prog (bodyPost Try.prog Try.f4 fun e w' => e = .returned (.bool true) ∧ Below w.heap.size w w') ⟨#[c0, .slice A len cp, c2, c3, c4, .bool true, .int .i64 (n : Int), .pointer (some ⟨b, 0, none⟩), c8, c9, c10, c11, c12, c13, c14, c15, c16, c17, c18, c19, c20, c21, c22, c23, c24, c25, c26, c27, c28, c29, c30, c31, c32, c33, c34, c35, c36, c37, c38, c39, c40, c41, c42, c43, c44, c45, c46, c47, c48, c49, c50, c51, c52, c53, c54, c55, c56, c57, c58, c59, c60, c61, c62, c63, c64, c65, c66, c67, c68, c69, c70, c71, c72, c73, c74, c75, c76, c77, c78, c79, c80, c81, c82, c83, c84, c85, c86, c87, c88, c89, c90, c91, c92, c93, c94, c95, c96, c97, c98, c99, c100, c101, c102, c103, c104, c105, c106, c107, c108, c109, c110, c111, c112, c113, c114, c115, c116, c117, c118, c119, c120, c121, c122, c123, c124, c125, c126, c127, c128, c129, c130, c131, c132, c133, c134, c135, c136, c137, c138, c139, c140, c141, c142, c143], []⟩ wr := by
  have HB := hide hB
  have RD := hide hr
  have HZ := hide hz
  have HSZ := hide hB.sz
  obtain ⟨i0, hi0, hz0, hzs1, hzs2⟩ := info_parts bool_info
  clear hB hr hz
  conv => arg 2; whnf
  go_upto_block 2 with (at_make; go_loud (refine wpList_make_full _ rfl (.const (.int .i64 21)) (.const (.int .i64 21)) 59 rfl wr.heap.size 4 i0 (.bool false) 1 Try.underlying59 hi0 hz0 hzs1 .i64 .i64 21 21 21 rfl rfl rfl rfl (by rw [hzs2]; omega) (by simp only [maxLen]; omega) (Nat.le_refl _) ?_); go_loud (intro w4 hown4 hgr4); go_loud (have O4 := hide hown4); go_loud (have G4 := hide hgr4); go_loud (clear hown4 hgr4))
  have kb := own_full O4.out
  have e0 : ((madeCells (Value.bool false).cells (21 * 1)).toList).toArray = tkA (fun _ => false) := by rw [Array.toArray_toList]; exact tk_start
  rw [e0] at kb
  have h4 := HB.out.more (grown_none_below G4.out) kb (Nat.le_refl _)
  obtain ⟨g, hg⟩ : ∃ g, g = wr.heap.size := ⟨_, rfl⟩
  rw [← hg] at h4 ⊢
  have hgw : w.heap.size ≤ g := by have := HSZ.out; omega
  have H4 := hide h4
  have HGW := hide hgw
  clear kb e0 h4 hg hgw O4 G4 HB HSZ
  rename_i K1 hK1
  have HK1 := hide hK1
  clear hK1
  refine wp_block_then ?_
  go_loopg [11] (n + 1) (fun q i wx => ∃ (j : Nat) (js : List Nat) (tk : Nat → Bool), i = .int .i64 (j : Int) ∧ j ≤ n ∧ q = n + 1 - j ∧ Left n j js tk ∧ BB w wx b (onceL js) 20 [(g, 4, tkA tk)])
  case atStart => exact ⟨0, List.range n, fun _ => false, rfl, by omega, by omega, left_start n, H4.out⟩
  case round =>
    obtain ⟨j, js, tk, rfl, hj, rfl, hL, hbb⟩ := hrel
    have HB := hide hbb
    have HL := hide hL
    clear hbb hL
    by_cases hlt : j < n
    · have j1 : (j : Int) < n := by omega
      go_upto_block 3 with fail
      rename_i K3 hK3
      have HK3 := hide hK3
      clear hK3
      refine wp_block_then ?_
      have hp : ∃ p : Int, (len ≤ j ∧ p = 0) ∨ (j < len ∧ 0 ≤ p ∧ p ≤ 255 ∧ ∃ ad, A = some ad ∧ ad.block < w.heap.size ∧ wr.cell? (ad.add j) = some (.int .u8 p)) := by
        rcases Nat.lt_or_ge j len with h | h
        · obtain ⟨ad, rfl, hab, hac⟩ := u8_at (RD.out.below HB.out.bel) (k := j) h
          exact ⟨_, .inr ⟨h, (HZ.out j).1, (HZ.out j).2, ad, rfl, hab, hac⟩⟩
        · exact ⟨0, .inl ⟨h, rfl⟩⟩
      obtain ⟨p, hp⟩ := hp
      refine oncePass w _ b g j n len cp A p js tk hlt hn hlen hp HL.out HB.out HGW.out K3 _ ?_
      intro u4 u12 u13 u14 u15 u16 u17 u18 u58 u59 u60 u61 u62 u63 u64 u65 u66 u67 u68 u69 u70 u71 u72 u73 u74 u75 u76 u77 u78 u79 u80 u81 u82 u83 u84 u85 u86 u87 u88 u89 u90 u91 u92 u93 u94 u95 u96 u97 u98 u99 u100 u101 u102 u103 u104 u105 u106 u107 u108 u109 u110 u111 u112 u113 u114 u115 u116 u117 u118 u119 u120 u121 u122 u123 u124 u125 u126 u127 u128 wx js' tk' hL' hB'
      refine HK3.out _ _ ?_
      have HB' := hide hB'
      have HL' := hide hL'
      clear hB' hL' hp HB HL
      go_wp2_with fail
      go_roundg (n + 1 - (j + 1))
      case measure => omega
      case rel => exact ⟨j + 1, js', tk', by go_num, by omega, rfl, HL'.out, HB'.out⟩
    · obtain rfl : j = n := by omega
      have hjs : js = [] := List.eq_nil_of_length_eq_zero (by have := HL.out.len; omega)
      subst hjs
      go_wp2_with fail
      refine HK1.out _ _ ?_
      clear HK1 HL
      go_wp2_with fail
      refine (bw_take 0 HB.out (x := It.z) (e := 5) (l' := []) rfl rfl rfl).mono ?_
      rintro e w5 ⟨rfl, h5⟩
      have H5 := hide (h5.alloc (.cells #[.int .i64 0, .int .i64 0, .string ⟨#[]⟩, .int .u64 0] 33))
      clear h5
      go_wp2_with fail
      refine (bw_len H5.out).mono ?_
      rintro e w6 ⟨rfl, rfl⟩
      go_wp2_with fail
      go_ret
      exact ⟨rfl, H5.out.bel⟩

set_option maxRecDepth 100000 in
set_option maxHeartbeats 20000000 in
theorem once_law (A : Option Addr) (len c : Nat) (zs : List Int) (m : Int) (w : World) (hl : len ≤ 9223372036854775807) (hzl : zs.length = len) (hr : Reads w w.heap.size 1 A len (zs.map (.int .u8)))
    (hz : ∀ k, 0 ≤ zs.getD k 0 ∧ zs.getD k 0 ≤ 255) (m0 : 0 ≤ m ∧ m ≤ 255) :
    Calls Try.prog 4 #[.int .u8 m, .slice A len c] w fun e w' => e = .returned (.bool true) ∧ Below w.heap.size w w' := by
  have RD := hide hr
  have HZ := hide hz
  obtain ⟨m1, m2⟩ := m0
  obtain ⟨n, hn⟩ : ∃ n : Nat, (n : Int) = m % 21 := ⟨(m % 21).toNat, by omega⟩
  have hn2 : n ≤ 20 := by omega
  have N := hide hn
  clear hr hz hn
  go_enter Try.func4, Try.ntmps4
  go_wp2_with fail
  refine (examples_any _).mono ?_
  rintro e w1 ⟨rfl, hb1⟩
  go_wp2_with fail
  refine (bw_new 20 w w1 hb1 (by omega) (by omega)).mono ?_
  rintro e w2 ⟨b, rfl, h2⟩
  have H2 := hide h2
  clear h2 hb1
  go_upto_block 0 with fail
  rename_i K0 hK0
  have HK0 := hide hK0
  clear hK0
  refine wp_block_then ?_
  go_loopg [9] (n + 1) (fun q i wr => ∃ j : Nat, i = .int .i64 (j : Int) ∧ j ≤ n ∧ q = n + 1 - j ∧ BB w wr b (onceL (List.range j)) 20 [])
  case atStart => exact ⟨0, rfl, by omega, by omega, H2.out⟩
  case round =>
    obtain ⟨j, rfl, hj, rfl, hbb⟩ := hrel
    have HB := hide hbb
    clear hbb
    by_cases hlt : j < n
    · have j1 : (j : Int) < m % 21 := by have := N.out; omega
      obtain ⟨hE, hL⟩ := once_put j (by omega)
      have hw : IntKind.u8.wrap (j : Int) = (j : Int) := IntWalk.u8_in _ (by omega)
      have hconv : ∀ W : World, W.cell? ⟨wr.heap.size, 0, none⟩ = some (.int .u8 (j : Int)) → (convert 58 9 (.slice (some ⟨wr.heap.size, 0, none⟩) 1 1)).run Try.prog W = .ok (.string (byteS j)) W := by
        intro W hW
        refine run_convert_bytes_arg (P := Try.prog) W 58 5 Try.underlying58 Try.underlying5 wr.heap.size 0 1 1 [(j : Int)] rfl (fun i hi => ?_) 9 Try.underlying9
        obtain rfl : i = 0 := by omega
        exact hW
      rw [itK_val] at hE hL
      have HP := hide (bw_put ⟨1, 2, byteS j, j⟩ (HB.out.alloc (.cells #[.int .u8 (j : Int)] 5)) hE hL)
      clear hE hL
      go_wp2_with fail
      refine HP.out.mono ?_
      rintro e w3 ⟨rfl, h3⟩
      have H3 := hide h3
      clear h3
      go_wp2_with fail
      go_roundg (n + 1 - (j + 1))
      case measure => omega
      case rel => exact ⟨j + 1, by go_num, by omega, rfl, H3.out⟩
    · obtain rfl : j = n := by omega
      have j1 : m % 21 ≤ (j : Int) := by have := N.out; omega
      go_wp2_with fail
      refine HK0.out _ _ ?_
      clear HK0
      rw [← N.out]
      exact onceEnd w _ b j len c A zs hn2 hl RD.out HZ.out HB.out

end Go.Proofs.Ytioehmlaaimeaaa
