/-
  Chapter 05: PlaceNear, walked: who stands where one stands is told in the order going round.
-/
import Derived.Test.YteciaffioiiceabH
namespace Go.Proofs.Yteciaffioiiceab
open Go.RowKit Go.Sort Go.Lib Go.Shelf

theorem far_zero : FarOk 0 0 0 0 := by
  have h : (farB 0 0 0 0).isSome = true := by decide +kernel
  refine ⟨zero_num, zero_num, zero_num, zero_num, ?_⟩
  obtain ⟨v, hv⟩ := Option.isSome_iff_exists.1 h
  unfold farI
  rw [hv]
  rfl

theorem ins_same {α : Type} [Inhabited α] (lt : α → α → Bool) (hlt : ∀ x y, lt x y = false) (a b : Nat) : ∀ (n i : Nat) (d : Array α), b - i = n → insOuter lt a b i d = d
  | 0, i, d, h => insOuter_stop _ _ _ _ _ (by omega)
  | n + 1, i, d, h => by rw [insOuter_go _ _ _ _ _ (by omega), insInner_stop _ _ _ _ (.inr (hlt _ _)), ins_same lt hlt a b n (i + 1) d (by omega)]

def zeroP (_ : Nat) : Nat × Nat := (0, 0)
theorem lt_zero {len : Nat} (x y : Fin len) : ltF (farF (0, 0) zeroP) x y = false := by
  show decide (cmpZ (farI 0 0 0 0) (farI 0 0 0 0) < 0) = false
  unfold cmpZ
  rw [if_neg (by omega), if_neg (by omega)]
  rfl
theorem sort_zero {len : Nat} [Inhabited (Fin len)] (l : List (Fin len)) : insertionSort (ltF (farF (0, 0) zeroP)) l.toArray 0 l.length = l.toArray := ins_same _ lt_zero _ _ _ _ _ rfl

def numsI {len : Nat} (l : List (Fin len)) : List Int := l.map fun x => (x.val : Int)
theorem encF_nums {len : Nat} (l : List (Fin len)) : l.map encF = (numsI l).map (.int .i64) := by simp [numsI, encF, List.map_map, Function.comp_def]

theorem app2 {α : Type} {a b c d : List α} (h : a = b) (k : c = d) : a ++ c = b ++ d := by rw [h, k]
theorem mod_ne {many k i : Nat} (hk : k < many) (hi : i < many - 1) : ((k + 1 + i) % many : Nat) ≠ k := by
  rcases Nat.lt_or_ge (k + 1 + i) many with h | h
  · rw [Nat.mod_eq_of_lt h]; omega
  · rw [Nat.mod_eq_sub_mod h, Nat.mod_eq_of_lt (by omega)]; omega
theorem near_list (many k : Nat) (hl : 0 < many) (hk : k < many) : ∀ n, n ≤ many - 1 → numsI (candL many hl (k + 1) k n) = (List.range n).map fun i => (((k + 1 + i) % many : Nat) : Int)
  | 0, _ => rfl
  | n + 1, h => by
    have hne : ¬ ((((k + 1 + n) % many : Nat) : Int) = (k : Int)) := by
      have := mod_ne hk (show n < many - 1 by omega)
      omega
    rw [candL, if_neg hne, List.range_succ, List.map_append, numsI, List.map_append]
    exact app2 (near_list many k hl hk n (by omega)) rfl
theorem near_all (many k : Nat) (hl : 0 < many) (hk : k < many) : numsI (candL many hl (k + 1) k many) = (List.range (many - 1)).map fun i => (((k + 1 + i) % many : Nat) : Int) := by
  obtain ⟨m, rfl⟩ : ∃ m, many = m + 1 := ⟨many - 1, by omega⟩
  have e : (((k + 1 + m) % (m + 1) : Nat) : Int) = (k : Int) := by
    rw [show k + 1 + m = k + (m + 1) by omega, Nat.add_mod_right, Nat.mod_eq_of_lt hk]
  rw [candL, if_pos e, List.append_nil]
  exact near_list _ _ _ hk m (by omega)
theorem out_list (many : Nat) (hl : 0 < many) : ∀ n, n ≤ many → numsI (candL many hl 0 (-1) n) = (List.range n).map fun i : Nat => (i : Int)
  | 0, _ => rfl
  | n + 1, h => by
    have hm : (0 + n) % many = n := by rw [Nat.zero_add]; exact Nat.mod_eq_of_lt (by omega)
    rw [candL, if_neg (by omega), List.range_succ, List.map_append, numsI, List.map_append]
    refine app2 (out_list many hl n (by omega)) ?_
    simp only [List.map_cons, List.map_nil, hm]

theorem near_len (many k : Nat) (hl : 0 < many) (hk : k < many) : (candL many hl (k + 1) k many).length = many - 1 := by
  have := congrArg List.length (near_all many k hl hk)
  simpa [numsI] using this
theorem out_len (many : Nat) (hl : 0 < many) : (candL many hl 0 (-1) many).length = many := by
  have := congrArg List.length (out_list many hl many (Nat.le_refl _))
  simpa [numsI] using this

/-- What stands at a place of a row that reads so. -/
theorem reads_int {w : World} {B n : Nat} {A : Option Addr} {zs : List Int} (h : Reads w B 1 A n (zs.map (.int .i64))) (i : Nat) (hi : i < n) {z : Int} (hz : zs[i]? = some z) :
    ∃ ad, A = some ad ∧ ad.block < B ∧ w.cell? (ad.add i) = some (.int .i64 z) := by
  obtain ⟨ad, u, rfl, hb, hu, hc⟩ := h.at_ hi
  rw [List.getElem?_map, hz] at hu
  cases hu
  exact ⟨ad, rfl, hb, hc⟩

theorem near_order (many k c ab : Nat) (hl : 0 < many) (hk : k < many) (h20 : many ≤ 20) (w : World) (hab : ab < w.heap.size) (hp : ∀ x, x < many → w.cell? ⟨ab, x, none⟩ = some (.complex .f64 0 0)) :
    Calls Try.prog 5 #[.slice (some ⟨ab, 0, none⟩) many c, .int .i64 k] w fun e w' => ∃ A cap, e = .returned (.slice A (many - 1) cap) ∧
      Reads w' w'.heap.size 1 A (many - 1) (((List.range (many - 1)).map fun i => (((k + 1 + i) % many : Nat) : Int)).map (.int .i64)) ∧ Below w.heap.size w w' := by
  haveI : Inhabited (Fin many) := ⟨⟨0, hl⟩⟩
  refine (order_in many hl ab c (k : Int) 0 0 zeroP w h20 hab hp (fun _ _ => far_zero) (by omega) (by omega) ⟨rfl, rfl⟩).mono ?_
  rintro e w' ⟨A, cap, he, hr, hb⟩
  rw [sort_zero, List.toList_toArray] at hr
  rw [show ((k : Int).toNat + 1) = k + 1 from by omega] at he hr
  rw [encF_nums, near_all many k hl hk, near_len many k hl hk] at hr
  rw [near_len many k hl hk] at he
  exact ⟨A, cap, he, hr, hb⟩

theorem out_order (many c ab : Nat) (hl : 0 < many) (h20 : many ≤ 20) (w : World) (hab : ab < w.heap.size) (hp : ∀ x, x < many → w.cell? ⟨ab, x, none⟩ = some (.complex .f64 0 0)) :
    Calls Try.prog 5 #[.slice (some ⟨ab, 0, none⟩) many c, .int .i64 (-1)] w fun e w' => ∃ A cap, e = .returned (.slice A many cap) ∧
      Reads w' w'.heap.size 1 A many (((List.range many).map fun i : Nat => (i : Int)).map (.int .i64)) ∧ Below w.heap.size w w' := by
  haveI : Inhabited (Fin many) := ⟨⟨0, hl⟩⟩
  refine (order_out many hl ab c (-1) zeroP w h20 hab hp (fun _ _ => far_zero) (by omega)).mono ?_
  rintro e w' ⟨A, cap, he, hr, hb⟩
  rw [sort_zero, List.toList_toArray] at hr
  rw [encF_nums, out_list many hl many (Nat.le_refl _), out_len many hl] at hr
  rw [out_len many hl] at he
  exact ⟨A, cap, he, hr, hb⟩

set_option maxRecDepth 100000 in
set_option maxHeartbeats 4000000 in
theorem near_law (n me : Int) (w : World) (h0 : 0 ≤ n) (h1 : n ≤ 255) (m0 : 0 ≤ me) (m1 : me ≤ 255) :
    Calls Try.prog 3 #[.int .u8 n, .int .u8 me] w fun e w' => e = .returned (.bool true) ∧ Below w.heap.size w w' := by
  obtain ⟨i0, hi0, hz0, hz1, hz2⟩ := info_parts complex_info
  obtain ⟨many, hmany⟩ : ∃ many : Nat, 1 + n % 20 = (many : Int) := ⟨(1 + n % 20).toNat, by omega⟩
  have hl : 0 < many := by omega
  have h20 : many ≤ 20 := by omega
  obtain ⟨k, hk⟩ : ∃ k : Nat, me % (many : Int) = (k : Int) := ⟨(me % (many : Int)).toNat, (Int.toNat_of_nonneg (Int.emod_nonneg _ (by omega))).symm⟩
  have hkm : k < many := by have := Int.emod_lt_of_pos me (show (0 : Int) < many by omega); omega
  have hlz : (0 : Int) < many := by omega
  go_enter Try.func3, Try.ntmps3
  go_wp2_with fail
  refine (examples_any w).mono ?_
  rintro e w1 ⟨rfl, hb1⟩
  have B1 := hide hb1
  clear hb1
  go_wp2_with (at_make; go_must (refine wpList_make_full _ rfl (.tmp 23) (.tmp 23) 23 rfl w1.heap.size 28 i0 (.complex .f64 0 0) 1 Try.underlying23 hi0 hz0 hz1 .i64 .i64 many many many rfl rfl rfl rfl (by rw [hz2]; omega) (by simp only [maxLen]; omega) (Nat.le_refl _) ?_); intro w2 hown hgr; have OWN := hide hown; have GR := hide hgr; clear hown hgr)
  have hcell : ∀ x, x < many → w2.cell? ⟨w1.heap.size, x, none⟩ = some (.complex .f64 0 0) := fun x hx => by
    have h := OWN.out.cells (g := w1.heap.size) rfl x (.complex .f64 0 0) (by rw [show (madeCells (Value.complex .f64 0 0).cells (many * 1)).toList = List.replicate (many * 1) (.complex .f64 0 0) from toList_madeCells_one _ _, List.getElem?_replicate, if_pos (by omega)])
    rwa [show (⟨w1.heap.size, 0, none⟩ : Addr).add x = ⟨w1.heap.size, x, none⟩ from by unfold Addr.add; split <;> simp_all] at h
  have hlt : w1.heap.size < w2.heap.size := (OWN.out.lt _ rfl).2
  have HB2 := hide (B1.out.trans ((grown_none_below GR.out).mono B1.out.size))
  have HC := hide hcell
  have HL := hide hlt
  clear hcell hlt
  refine (near_order many k many w1.heap.size hl hkm h20 w2 HL.out HC.out).mono ?_
  rintro e w3 ⟨A, cap, rfl, hr, hb3⟩
  obtain ⟨mm, hmm⟩ : ∃ mm, many - 1 = mm := ⟨_, rfl⟩
  have hm1 : ((mm : Int) != (many : Int) - 1) = false := by rw [bne_eq_false_iff_eq]; omega
  rw [hmm] at hr ⊢
  have R3 := hide hr
  have B3 := hide hb3
  clear hr hb3
  go_wp2_with fail
  clear hm1
  go_loopg [10] (mm + 1) (fun q i wr => ∃ j d : Nat, i = .int .i64 (j : Int) ∧ j ≤ mm ∧ q = mm + 1 - j ∧ wr = w3.drewN d)
  case atStart => exact ⟨0, 0, rfl, by omega, by omega, rfl⟩
  case round =>
    obtain ⟨j, d, rfl, hj, rfl, rfl⟩ := hrel
    by_cases hlt : j < mm
    · have j1 : (j : Int) < mm := by omega
      have j0 : (0 : Int) ≤ j := by omega
      obtain ⟨ad, rfl, _, hc⟩ := reads_int R3.out j hlt (z := (((k + 1 + j) % many : Nat) : Int)) (by simp [hlt])
      have hmod : ((k : Int) + 1 + (j : Int)) % (many : Int) = (((k + 1 + j) % many : Nat) : Int) := rfl
      obtain ⟨r, hr⟩ : ∃ r : Nat, (k + 1 + j) % many = r := ⟨_, rfl⟩
      rw [hr] at hc hmod
      obtain ⟨wd, hwd⟩ : ∃ wd, wd = w3.drewN d := ⟨_, rfl⟩
      have hc' : wd.cell? (ad.add j) = some (.int .i64 (r : Int)) := by rw [hwd]; exact hc
      have k0 : (0 : Int) ≤ (k : Int) + 1 + (j : Int) := by omega
      have hrem : ((k : Int) + 1 + (j : Int)).tmod (many : Int) = (r : Int) := by rw [Int.tmod_eq_emod_of_nonneg k0]; exact hmod
      have hw1 : IntKind.i64.wrap ((k : Int) + 1) = (k : Int) + 1 := IntWalk.i64_in _ (by omega)
      have hw2 : IntKind.i64.wrap ((k : Int) + 1 + (j : Int)) = (k : Int) + 1 + (j : Int) := IntWalk.i64_in _ (by omega)
      clear hr hc
      rw [← hwd]
      have WD := hide hwd
      clear hwd
      go_wp2_with fail
      go_quiet (fail)
      go_wp2_with fail
      go_roundg (mm + 1 - (j + 1))
      case measure => omega
      case rel => exact ⟨j + 1, d + nq, by go_num, by omega, rfl, by rw [WD.out, World.drewN_drewN]⟩
    · have j1 : ¬ (j : Int) < mm := by omega
      obtain ⟨wd, hwd⟩ : ∃ wd, wd = w3.drewN d := ⟨_, rfl⟩
      have hbd : Below w2.heap.size w2 wd := by rw [hwd]; exact below_drewN B3.out d
      rw [← hwd]
      have BD := hide hbd
      clear hwd hbd
      go_wp2_with fail
      refine (out_order many many w1.heap.size hl h20 wd (Nat.lt_of_lt_of_le HL.out BD.out.size) (fun x hx => (BD.out.cell (p := ⟨w1.heap.size, x, none⟩) HL.out).trans (HC.out x hx))).mono ?_
      rintro e w4 ⟨A4, cap4, rfl, hr4, hb4⟩
      obtain ⟨ad4, rfl, _, hc4⟩ := reads_int hr4 0 hl (z := 0) (by simp [hl])
      have hc5 : w4.cell? ad4 = some (.int .i64 0) := by simpa [Addr.add] using hc4
      have hB4 := (HB2.out.trans (BD.out.mono (HB2.out.size))).trans (hb4.mono (Nat.le_trans HB2.out.size BD.out.size))
      have B4 := hide hB4
      clear hr4 hb4 hB4
      go_wp2_with fail
      go_ret
      exact ⟨rfl, B4.out⟩

end Go.Proofs.Yteciaffioiiceab
