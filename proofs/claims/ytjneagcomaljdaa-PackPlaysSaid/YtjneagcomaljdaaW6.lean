/-
  Chapter 2: a number's bytes, walked through the program's text and the document's.
-/
import Derived.Test.YtjneagcomaljdaaW5
import Derived.Laws.BytesArg
import Derived.Lib.ConvBytes
import Derived.Deep.DeepCutAuto
namespace Go.Proofs.Ytjneagcomaljdaa
open Go.RowKit

/-- A number's low bytes, the lowest first. -/
def digits (n m : Nat) : List Int := (List.range m).map fun k => (n : Int) / 2 ^ (8 * k) % 256
def putB (n m : Nat) : ByteArray := strOfNums (digits n m)
theorem digits_len (n m : Nat) : (digits n m).length = m := by simp [digits]
theorem digits_at (n m k : Nat) (h : k < m) : (digits n m)[k]? = some ((n : Int) / 2 ^ (8 * k) % 256) := by
  simp [digits, List.getElem?_map, List.getElem?_range h]
theorem digits_snoc (n m : Nat) : digits n (m + 1) = digits n m ++ [(n : Int) / 2 ^ (8 * m) % 256] := by
  simp [digits, List.range_succ]
theorem putB_size (n m : Nat) : (putB n m).size = m := by rw [putB, strOfNums_size, digits_len]

set_option maxHeartbeats 1000000 in
theorem put_bad (n : Nat) (m : Int) (w : World) (h : m < 1 ∨ 8 < m) :
    Calls Try.prog 20 #[.int .u64 n, .int .i64 m] w fun e w' => e = .returned (.string ⟨#[]⟩) ∧ Below w.heap.size w w' := by
  by_cases h1 : m < 1
  · clear h
    go_enter Try.func20, Try.ntmps20
    go_wp2_with fail
    exact bodyPost_ret (v := .string ⟨#[]⟩) (by simp [results, Try.results20, go_sem]) rfl ⟨rfl, Below.refl _ _⟩
  · have h2 : 8 < m := by omega
    clear h
    go_enter Try.func20, Try.ntmps20
    go_wp2_with fail
    exact bodyPost_ret (v := .string ⟨#[]⟩) (by simp [results, Try.results20, go_sem]) rfl ⟨rfl, Below.refl _ _⟩

set_option maxHeartbeats 1000000 in
theorem rput_bad (n : Nat) (m : Int) (w : World) (h : m < 1 ∨ 8 < m) :
    Calls Try.prog 21 #[.int .u64 n, .int .i64 m] w fun e w' => e = .returned (.string ⟨#[]⟩) ∧ Below w.heap.size w w' := by
  by_cases h1 : m < 1
  · clear h
    go_enter Try.func21, Try.ntmps21
    go_wp2_with fail
    exact bodyPost_ret (v := .string ⟨#[]⟩) (by simp [results, Try.results21, go_sem]) rfl ⟨rfl, Below.refl _ _⟩
  · have h2 : 8 < m := by omega
    clear h
    go_enter Try.func21, Try.ntmps21
    go_wp2_with fail
    exact bodyPost_ret (v := .string ⟨#[]⟩) (by simp [results, Try.results21, go_sem]) rfl ⟨rfl, Below.refl _ _⟩

set_option maxHeartbeats 1000000 in
theorem put_in (n : Nat) (m : Nat) (w : World) (h1 : 1 ≤ m) (h8 : m ≤ 8) (hn : n < 18446744073709551616) :
    Calls Try.prog 20 #[.int .u64 n, .int .i64 m] w fun e w' => e = .returned (.string (putB n m)) ∧ Below w.heap.size w w' := by
  have g1 : (1 : Int) ≤ m := by omega
  have g2 : (m : Int) ≤ 8 := by omega
  go_enter Try.func20, Try.ntmps20
  go_wp2_with fail
  go_loopg [14] (m + 1) (fun q i wr => ∃ k : Nat, i = .int .i64 k ∧ k ≤ m ∧ q = m + 1 - k ∧ wr.rowIs w.heap.size 56 8 (fun j => if j < k then .int .u8 ((n : Int) / 2 ^ (8 * j) % 256) else .int .u8 0) ∧ Below w.heap.size w wr)
  case atStart =>
    refine ⟨0, rfl, by omega, by omega, World.rowIs_alloc w _ _ _ (fun j hj => ?_), (Below.refl _ _).alloc (Nat.le_refl _) _⟩
    have hj8 : j < 8 := hj
    match j, hj8 with
    | 0, _ => rfl
    | 1, _ => rfl
    | 2, _ => rfl
    | 3, _ => rfl
    | 4, _ => rfl
    | 5, _ => rfl
    | 6, _ => rfl
    | 7, _ => rfl
  case round =>
    obtain ⟨k, rfl, hk, rfl, hr, hb⟩ := hrel
    by_cases hlt : k < m
    · have c0 := hr.cell (i := k) (by omega)
      have f0 := hr.frozen k
      have hlt2 : (k : Int) < m := by omega
      have hk8 : (k : Int) < 8 := by omega
      have HR := hide hr
      have HB := hide hb
      clear hr hb
      go_wp2_with fail
      go_roundg (m + 1 - (k + 1))
      case measure => go_num
      case rel =>
        refine ⟨k + 1, rfl, by omega, rfl, ?_, HB.out.setCell (Nat.le_refl _) _⟩
        refine World.rowIs.congr (HR.out.set k (.int .u8 ((n : Int) / 2 ^ (8 * k) % 256))) ?_
        intro j hj
        by_cases hjk : j = k
        · subst hjk; simp
        · simp only [hjk, if_false]
          by_cases hjl : j < k
          · rw [if_pos hjl, if_pos (by omega)]
          · rw [if_neg hjl, if_neg (by omega)]
    · have hkm : k = m := by omega
      subst hkm
      have hconv := run_convert_bytes_arg (P := Try.prog) wr 45 5 rfl rfl w.heap.size 0 k 8 (digits n k) (digits_len n k) (fun i hi => by
        rw [Nat.zero_add, hr.cell (by omega)]
        simp [hi, List.getD, digits_at n k i hi]) 9 rfl
      have hge : (k : Int) ≤ k := Int.le_refl _
      have HR := hide hr
      have HB := hide hb
      clear hr hb
      go_wp2_with fail
      exact bodyPost_ret (v := .string (putB n k)) (by simp [results, Try.results20, go_sem, putB]) rfl ⟨rfl, HB.out⟩

end Go.Proofs.Ytjneagcomaljdaa
