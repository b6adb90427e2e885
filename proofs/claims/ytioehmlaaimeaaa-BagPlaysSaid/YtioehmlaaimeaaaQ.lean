/-
  Chapter 21: when two items are the same; a list of items by their times.
-/
import Derived.Test.YtioehmlaaimeaaaE1
import Derived.Laws.StructEq
import Derived.Laws.BytesArg
namespace Go.Proofs.Ytioehmlaaimeaaa
open Go.RowKit

def eqIt (x y : It) : Bool := x.fr == y.fr && (x.to == y.to && (x.by_.toList == y.by_.toList && x.at_ == y.at_))
theorem eqIt_self (x : It) : eqIt x x = true := by simp [eqIt]
theorem eq_item (x y : It) (w : World) : (binOp .eql 33 x.val y.val).run Try.prog w = .ok (.bool (eqIt x y)) w := by
  have hS : Try.prog.underlying 33 = some (.struct (Try.prog.fieldsOf 33)) := by kernel_rfl
  have hp : Try.prog.stoodInHeld 33 = false := by kernel_rfl
  have u3 := Try.underlying3
  have u9 := Try.underlying9
  have u31 := Try.underlying31
  have a3 := Try.isAgg3
  have a9 := Try.isAgg9
  have a31 := Try.isAgg31
  have z3 := Try.sizeOf3
  have z9 := Try.sizeOf9
  have z31 := Try.sizeOf31
  rw [run_eql_struct, show (10000 : Nat) = 9999 + 1 from rfl, run_equalIn_agg w 9999 33 _ _ hS hp]
  simp only [Program.fieldsOf, Try.underlying33]
  go_simp
  unfold eqIt
  by_cases h1 : x.fr = y.fr <;> by_cases h2 : x.to = y.to <;> by_cases h3 : (x.by_.toList == y.by_.toList) = true <;> by_cases h4 : x.at_ = y.at_ <;> simp_all
theorem neq_item (x y : It) (w : World) : (binOp .neq 33 x.val y.val).run Try.prog w = .ok (.bool (!eqIt x y)) w := by
  have h := eq_item x y w
  rw [run_eql_struct] at h
  rw [run_neq_struct]
  cases hh : (Op.equalIn 10000 33 (.agg x.val.cells) (.agg y.val.cells)).run Try.prog w with
  | ok b w' =>
    have hh2 : (Op.equalIn 10000 33 x.val y.val).run Try.prog w = .ok b w' := hh
    rw [hh2] at h ⊢
    simp only [Result.andThen_ok] at h ⊢
    injection h with h1 h2
    injection h1 with h1
    rw [h1, h2]
  | halt e w' =>
    have hh2 : (Op.equalIn 10000 33 x.val y.val).run Try.prog w = .halt e w' := hh
    rw [hh2] at h
    cases h
theorem guard_item (op : BinOp) (o1 o2 : Operand) (xs ys : Array Value) (w : World) : (eqGuard op 33 o1 o2 (.agg xs) (.agg ys)).run Try.prog w = .ok () w :=
  run_eqGuard_agg w op 33 o1 o2 xs ys (by kernel_rfl)

def byteS (j : Nat) : ByteArray := strOfNums [(j : Int)]
theorem byteS_size (j : Nat) : (byteS j).size = 1 := by rw [byteS, strOfNums_size]; rfl
theorem byteS_get (j : Nat) (hj : j < 256) (h : 0 < (byteS j).size) : ((byteS j)[0]'h).toNat = j := by
  have e : (byteS j)[0]'h = UInt8.ofNat j := rfl
  rw [e]
  simp
  omega
/-- The j-th item that is put: its byte, its time. -/
def itJ (zs : List Int) (j : Nat) : It := ⟨1, 2, byteS j, zs.getD j 0⟩
def fillL (zs : List Int) (j : Nat) : List It := (List.range j).map (itJ zs)
theorem fillL_succ (zs : List Int) (j : Nat) : fillL zs (j + 1) = fillL zs j ++ [itJ zs j] := by simp [fillL, List.range_succ]
theorem fillL_len (zs : List Int) (j : Nat) : (fillL zs j).length = j := by simp [fillL]
theorem fillL_at (zs : List Int) (j k : Nat) (h : k < j) : itAt (fillL zs j) k = itJ zs k := by
  unfold itAt fillL
  rw [List.getElem?_map, List.getElem?_range h]
  rfl
theorem mayJ (zs : List Int) (j : Nat) : mayI (itJ zs j) = true := by
  unfold mayI itJ
  simp only [byteS_size]
  rfl
theorem fill_put (zs : List Int) (j : Nat) (h : j < 20) : putE (fillL zs j) 20 (itJ zs j) = 0 ∧ putL (fillL zs j) 20 (itJ zs j) = fillL zs (j + 1) := by
  have hE : putE (fillL zs j) 20 (itJ zs j) = 0 := by
    unfold putE
    rw [mayJ, if_pos rfl, fillL_len, if_pos (by omega)]
  refine ⟨hE, ?_⟩
  unfold putL
  rw [if_pos hE, fillL_succ]

end Go.Proofs.Ytioehmlaaimeaaa
