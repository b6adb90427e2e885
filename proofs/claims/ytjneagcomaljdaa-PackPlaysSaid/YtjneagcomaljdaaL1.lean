/-
  Chapter 2: plain facts of a number's bytes.
-/
import Derived.Test.YtjneagcomaljdaaE1
import Derived.WideShapes
import Derived.Laws.StructEq
namespace Go.Proofs.Ytjneagcomaljdaa
open Go.RowKit

theorem digits_nat (n m : Nat) : digits n m = (List.range m).map fun k => ((n / 256 ^ k % 256 : Nat) : Int) := by
  unfold digits
  congr 1
  funext k
  have h : (256 : Nat) ^ k = 2 ^ (8 * k) := by rw [Nat.pow_mul]
  rw [h, Int.natCast_emod, Int.natCast_ediv, Int.natCast_pow]
  rfl

theorem putB_list (n m : Nat) : (putB n m).data.toList = (List.range m).map fun k => UInt8.ofNat (n / 256 ^ k % 256) := by
  rw [putB, strOfNums_data, digits_nat, List.map_map]
  rfl

theorem leN_put (n : Nat) : ∀ m, leN (putB n m).data.toList = n % 256 ^ m
  | 0 => by rw [Nat.pow_zero, Nat.mod_one]; rfl
  | m + 1 => by
    have ih := leN_put n m
    rw [putB_list] at ih ⊢
    rw [List.range_succ, List.map_append, List.map_cons, List.map_nil, leN_snoc, ih, Nat.mod_pow_succ]
    simp
    rw [Nat.mul_comm]

theorem putB_inj {a b m : Nat} (ha : a < 256 ^ m) (hb : b < 256 ^ m) (h : putB a m = putB b m) : a = b := by
  have h1 := leN_put a m
  rw [h, leN_put, Nat.mod_eq_of_lt ha, Nat.mod_eq_of_lt hb] at h1
  exact h1.symm

theorem putB_prefix (n m k : Nat) (h : k ≤ m) : (putB n m).extract 0 k = putB n k := by
  apply Go.WideShapes.bytes_inj
  rw [ByteArray.data_extract, Array.toList_extract, putB_list, putB_list]
  simp only [List.extract, Nat.sub_zero, List.drop_zero]
  rw [← List.map_take, List.take_range, Nat.min_eq_left h]

theorem putB_first (n m : Nat) (h : 0 < (putB n m).size) : ((putB n m)[0]'h).toNat = n % 256 := by
  have e := putB_list n m
  have h2 : 0 < m := by rw [putB_size] at h; exact h
  have h3 : (putB n m).data.toList[0]? = some ((putB n m)[0]'h) := by
    simp [ByteArray.getElem_eq_getElem_data]
  rw [e, List.getElem?_map, List.getElem?_range h2] at h3
  simp at h3
  rw [← h3]
  simp

theorem beq_bytes (a b : ByteArray) : (a.toList == b.toList) = decide (a = b) := by
  rw [ByteArray.toList_eq, ByteArray.toList_eq, Bool.eq_iff_iff, beq_iff_eq, decide_eq_true_iff]
  exact ⟨Go.WideShapes.bytes_inj, fun h => by rw [h]⟩

end Go.Proofs.Ytjneagcomaljdaa
