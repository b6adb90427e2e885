/-
  Library functions of the program, laid under the names of the kit's contracts (written by the kit's own tool, in plain words). No condition of a statement stands here.
-/
import Derived.Shelf.SlSortCmp.Insertion
import Derived.Shelf.SlGeneric
import Derived.Test.YteciaffioiiceabProg
namespace Go.Proofs.Yteciaffioiiceab
open Go.Shelf
def lay_ins_ren : Go.Shelf.Ren := ⟨fun | 20 => 18 | n => n, fun | 24 => 3 | 22 => 24 | 3 => 3 | 25 => 36 | 4 => 4 | 0 => 0 | n => n, fun | n => n⟩
theorem lay_ins : Go.Proofs.SlLaysF.n20 Try.prog lay_ins_ren := {
  mixed := by kernel_rfl
  f20 := ⟨Try.f18.name, by decide, Try.func18.trans (congrArg some (by kernel_rfl))⟩
  t0 := Try.underlying0
  a0 := Try.isAgg0
  z0 := Try.sizeOf0
  v0 := Try.zeroValue0
  t3 := Try.underlying3
  a3 := Try.isAgg3
  z3 := Try.sizeOf3
  v3 := Try.zeroValue3
  t4 := Try.underlying4
  a4 := Try.isAgg4
  z4 := Try.sizeOf4
  v4 := Try.zeroValue4
  t22 := Try.underlying24
  a22 := Try.isAgg24
  z22 := Try.sizeOf24
  v22 := Try.zeroValue24
  a24 := Try.isAgg3
  z24 := Try.sizeOf3
  t25 := Try.underlying36
  a25 := Try.isAgg36
  z25 := Try.sizeOf36
  v25 := Try.zeroValue36 }
end Go.Proofs.Yteciaffioiiceab
