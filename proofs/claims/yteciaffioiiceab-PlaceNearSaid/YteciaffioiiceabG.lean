/-
  Chapter 05: two lists that are the same; the chapter's examples.
-/
import Derived.Test.YteciaffioiiceabF
namespace Go.Proofs.Yteciaffioiiceab
open Go.RowKit Go.Sort Go.Lib Go.Shelf

set_option maxHeartbeats 1000000 in
theorem same_true (A D : Option Addr) (n c e B1 B2 : Nat) (zs : List Int) (w : World) (hn : n ≤ 100) (h1 : Reads w B1 1 A n (zs.map (.int .i64))) (h2 : Reads w B2 1 D n (zs.map (.int .i64))) :
    Calls Try.prog 7 #[.slice A n c, .slice D n e] w fun e w' => e = .returned (.bool true) ∧ ∃ q, w' = w.drewN q := by
  have H1 := hide h1
  have H2 := hide h2
  clear h1 h2
  go_enter Try.func7, Try.ntmps7
  go_wp2_with fail
  go_loopg [5] (n + 1) (fun q i wr => ∃ k d : Nat, i = .int .i64 (k : Int) ∧ k ≤ n ∧ q = n + 1 - k ∧ wr = w.drewN d)
  case atStart => exact ⟨0, 0, rfl, by omega, by omega, rfl⟩
  case round =>
    obtain ⟨k, d, rfl, hk, rfl, rfl⟩ := hrel
    by_cases hlt : k < n
    · have k1 : (k : Int) < n := by omega
      have k0 : (0 : Int) ≤ k := by omega
      obtain ⟨a1, u, rfl, _, hu1, c1⟩ := H1.out.at_ hlt
      obtain ⟨a2, u2, rfl, _, hu2, c2⟩ := H2.out.at_ hlt
      obtain rfl : u = u2 := Option.some.inj (hu1.symm.trans hu2)
      rw [List.getElem?_map, Option.map_eq_some_iff] at hu1
      obtain ⟨z, _, rfl⟩ := hu1
      have d1 : (w.drewN d).cell? (a1.add k) = some (.int .i64 z) := c1
      have d2 : (w.drewN d).cell? (a2.add k) = some (.int .i64 z) := c2
      clear c1 c2 hu2
      obtain ⟨wd, hwd⟩ : ∃ wd, wd = w.drewN d := ⟨_, rfl⟩
      rw [← hwd] at d1 d2 ⊢
      have WD := hide hwd
      clear hwd
      go_wp2_with fail
      go_quiet (fail)
      go_wp2_with fail
      go_roundg (n + 1 - (k + 1))
      case measure => omega
      case rel => exact ⟨k + 1, d + nq, by go_num, by omega, rfl, by rw [WD.out, World.drewN_drewN]⟩
    · have k1 : ¬ (k : Int) < n := by omega
      go_wp2_with fail
      go_ret
      exact ⟨rfl, d, rfl⟩

/-- The sort with a number that falls: for the kernel. -/
def insF {α : Type} [Inhabited α] (lt : α → α → Bool) (a b : Nat) : Nat → Nat → Array α → Array α
  | 0, _, d => d
  | n + 1, i, d => if i < b then insF lt a b n (i + 1) (insInner lt a i d) else d
theorem insF_eq {α : Type} [Inhabited α] (lt : α → α → Bool) (a b : Nat) : ∀ (n i : Nat) (d : Array α), b - i ≤ n → insOuter lt a b i d = insF lt a b n i d
  | 0, i, d, h => insOuter_stop _ _ _ _ _ (by omega)
  | n + 1, i, d, h => by
    rw [insF]
    split
    · rw [insOuter_go _ _ _ _ _ ‹_›]; exact insF_eq lt a b n (i + 1) _ (by omega)
    · exact insOuter_stop _ _ _ _ _ ‹_›

def exP : Nat → Nat × Nat
  | 0 => (0, 0)
  | 1 => (4613937818241073152, 0)
  | 2 => (0, 4607182418800017408)
  | _ => (0, 13830554455654793216)
instance inh4 : Inhabited (Fin 4) := ⟨0⟩
theorem ex_far : ∀ k : Fin 4, isNum (exP k.val).1 = true ∧ isNum (exP k.val).2 = true ∧ farB 0 0 (exP k.val).1 (exP k.val).2 = some (farI 0 0 (exP k.val).1 (exP k.val).2) := by decide +kernel
theorem ex_cand : candL 4 (by omega) 1 0 4 = [1, 2, 3] := by decide +kernel
theorem ex_sort : (insF (ltF (farF (len := 4) (0, 0) exP)) 0 3 3 1 #[1, 2, 3]).toList.map (fun x : Fin 4 => (x.val : Int)) = [2, 3, 1] := by decide +kernel
theorem ex_sorted : (insertionSort (ltF (farF (len := 4) (0, 0) exP)) [1, 2, 3].toArray 0 3).toList.map encF = ([2, 3, 1] : List Int).map (.int .i64) := by
  unfold insertionSort
  rw [insF_eq _ _ _ 3 _ _ (by omega), ← ex_sort, List.map_map]
  rfl

theorem ex_order (ab c : Nat) (w : World) (hab : ab < w.heap.size) (hp : ∀ x, x < 4 → w.cell? ⟨ab, x, none⟩ = some (.complex .f64 (exP x).1 (exP x).2)) :
    Calls Try.prog 5 #[.slice (some ⟨ab, 0, none⟩) 4 c, .int .i64 0] w fun e w' => ∃ A cap, e = .returned (.slice A 3 cap) ∧ Reads w' w'.heap.size 1 A 3 (([2, 3, 1] : List Int).map (.int .i64)) ∧ Below w.heap.size w w' := by
  refine (order_in 4 (by omega) ab c 0 0 0 exP w (by omega) hab hp (fun x hx => ⟨zero_num, zero_num, (ex_far ⟨x, hx⟩).1, (ex_far ⟨x, hx⟩).2.1, (ex_far ⟨x, hx⟩).2.2⟩) (by omega) (by decide) ⟨rfl, rfl⟩).mono ?_
  rintro e w' ⟨A, cap, he, hr, hb⟩
  have e1 : candL 4 (by omega) ((0 : Int).toNat + 1) 0 4 = [1, 2, 3] := ex_cand
  rw [e1] at he hr
  rw [show ([1, 2, 3] : List (Fin 4)).length = 3 from rfl, ex_sorted] at hr
  exact ⟨A, cap, he, hr, hb⟩

theorem ring_ex : ringB 1 = (0, 4607182418800017408) ∧ ringB 2 = (13830554455654793216, 0) ∧ ringB 4 = (4611686018427387904, 0) := by decide +kernel
theorem far_ex : farB 4607182418800017408 4607182418800017408 4616189618054758400 4617315517961601024 = some 25 ∧ farB 4602678819172646912 0 0 0 = some 0 := by decide +kernel
theorem spin_ex : spinB 4607182418800017408 4611686018427387904 1 = some (13835058055282163712, 4607182418800017408) := by decide +kernel
theorem right_ex : rightB 0 0 = true ∧ rightB 4602678819172646912 0 = false := by decide +kernel
theorem num_ex : isNum 4607182418800017408 = true ∧ isNum 4616189618054758400 = true ∧ isNum 4617315517961601024 = true ∧ isNum 4602678819172646912 = true ∧ isNum 4611686018427387904 = true := by decide +kernel

end Go.Proofs.Yteciaffioiiceab
