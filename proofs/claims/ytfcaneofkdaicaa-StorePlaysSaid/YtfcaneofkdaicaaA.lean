/-
  Chapter 16: commands and replies in memory; how far a world has only grown. No condition of a statement stands here.
-/
import Derived.Test.YtfcaneofkdaicaaK3
import Derived.Test.YtfcaneofkdaicaaS
import Derived.Test.YtfcaneofkdaicaaM
import Derived.Test.YtfcaneofkdaicaaQ
import Derived.Test.YtfcaneofkdaicaaProg
import Derived.WalkKit
import Derived.WalkSpells
import Derived.WalkLawsBesides
import Derived.StillTailTactics
import Derived.BigQuiet
import Derived.Lib.Hide
import Derived.Deep.RegionHeld3
import Derived.Sort.Grow
import Derived.DeepKeys5
import Derived.KernelRfl
import Derived.Laws.StructEq
namespace Go.Proofs.Ytfcaneofkdaicaa
open Go.RowKit Go.Sort Go.Maps

theorem mixed : Try.prog.follows .mixedOrders = true := by kernel_rfl

/-- Some draws, some new blocks: nothing else. -/
def Gr (w w' : World) : Prop := ∃ q os, w' = grow (w.drewN q) os
section
variable {w w' v : World}
theorem Gr.refl (w : World) : Gr w w := ⟨0, #[], by rw [grow_empty]; rfl⟩
theorem Gr.alloc (h : Gr w w') (o : Obj) : Gr w (w'.alloc o) := by
  obtain ⟨q, os, rfl⟩ := h
  exact ⟨q, _, by rw [alloc_eq_grow, grow_grow]⟩
theorem Gr.drewN (h : Gr w w') (n : Nat) : Gr w (w'.drewN n) := by
  obtain ⟨q, os, rfl⟩ := h
  exact ⟨q + n, os, by rw [← World.drewN_drewN]; rfl⟩
theorem Gr.drew (h : Gr w w') : Gr w w'.drew := h.drewN 1
theorem Gr.trans (h : Gr w w') (k : Gr w' v) : Gr w v := by
  obtain ⟨q, os, rfl⟩ := h
  obtain ⟨q', os', rfl⟩ := k
  exact ⟨q + q', os ++ os', by rw [← World.drewN_drewN, ← grow_grow]; rfl⟩
theorem Gr.below (h : Gr w w') : Below w.heap.size w w' := by
  obtain ⟨q, os, rfl⟩ := h
  exact ⟨rfl, rfl, rfl, by rw [size_grow]; exact Nat.le_add_right _ _, fun i hi => heap_grow_old (w.drewN q) os hi⟩
theorem Gr.size (h : Gr w w') : w.heap.size ≤ w'.heap.size := h.below.size
end

theorem laidOut : laidOutB Try.prog = true := by kernel_rfl
theorem ask_law : Keyed Try.prog 74 := Keyed.of_law (deep_law_gate laidOut (by decide +kernel) (by decide +kernel) (by kernel_rfl) (by kernel_rfl))
theorem str_law : Keyed Try.prog 9 := string_keyed Try.underlying9

def askV (c s : Int) : Value := .agg #[.int .i64 c, .int .u32 s]
def Fits (x : Int) : Prop := -9223372036854775808 ≤ x ∧ x ≤ 9223372036854775807
def FitsU (x : Int) : Prop := 0 ≤ x ∧ x ≤ 4294967295
theorem fits_wf {x : Int} (h : Fits x) : (Lit.int .i64 x).wf = true := WalkArith.wf_i64 h
theorem fitsU_wf {x : Int} (h : FitsU x) : (Lit.int .u32 x).wf = true := WalkArith.wf_u32 h

theorem ask_keyType : Try.prog.keyType 74 = true := by kernel_rfl
theorem ask_cells : Try.prog.cellsOf 74 = 2 := by kernel_rfl
theorem int_cells : Try.prog.cellsOf 3 = 1 := by kernel_rfl
theorem u32_cells : Try.prog.cellsOf 23 = 1 := by kernel_rfl
theorem types_some : ∃ n, Try.prog.types.size = n + 1 := by
  have h : 0 < Try.prog.types.size := by decide +kernel
  exact ⟨Try.prog.types.size - 1, by omega⟩
theorem ask_key (c s : Int) (hc : Fits c) (hs : FitsU s) : ∃ l, keyOf Try.prog 74 (askV c s) = some l := by
  obtain ⟨N, hN⟩ := types_some
  refine ⟨.string (keyBytes [.int .i64 c, .int .u32 s]), ?_⟩
  unfold keyOf
  rw [Try.underlying74]
  simp only [ask_keyType, askV, Value.formed, Try.underlying74, ask_cells, Value.cells, hN]
  simp [Program.keyLits, Try.underlying74, ask_cells, int_cells, u32_cells, Try.underlying3, Try.underlying23, fits_wf hc, fitsU_wf hs]
theorem str_key (k : ByteArray) (h : k.size ≤ 9223372036854775807) : ∃ l, keyOf Try.prog 9 (.string k) = some l := by
  refine ⟨.string k.data.toList, ?_⟩
  have h' : k.size ≤ maxLen := h
  simp [keyOf, Try.underlying9, mapKey, h']

theorem askV_inj {a b c d : Int} : askV a b = askV c d ↔ a = c ∧ b = d := by
  unfold askV
  constructor
  · intro h
    simp only [Value.agg.injEq] at h
    have h := congrArg Array.toList h
    simp only [List.cons.injEq, Value.int.injEq, true_and, and_true] at h
    exact h
  · rintro ⟨rfl, rfl⟩
    rfl
theorem strV_inj {a b : ByteArray} : Value.string a = Value.string b ↔ a = b := by simp

def Cm.cells (x : Cm) : List Value := [.int .i64 x.o, .int .i64 x.c, .int .u32 x.s, .string x.k, .string x.v]
def Cm.val (x : Cm) : Value := .agg #[.int .i64 x.o, .int .i64 x.c, .int .u32 x.s, .string x.k, .string x.v]
def Rp.val (x : Rp) : Value := .agg #[.int .i64 x.c, .int .u32 x.s, .bool x.f, .string x.v]
structure Cm.Fit (x : Cm) : Prop where
  o : Fits x.o
  c : Fits x.c
  s : FitsU x.s
  k : x.k.size ≤ 9223372036854775807
  v : x.v.size ≤ 9223372036854775807

theorem bytes_nil {k : ByteArray} : k = ⟨#[]⟩ ↔ k.size = 0 := by
  constructor
  · rintro rfl; rfl
  · intro h
    apply ByteArray.ext
    exact Array.eq_empty_of_size_eq_zero h
theorem toList_nil {k : ByteArray} : k.toList = [] ↔ k.size = 0 := by
  rw [Go.Lib.toList_data]
  constructor
  · intro h
    have : k.data.toList.length = 0 := by rw [h]; rfl
    simpa using this
  · intro h
    exact List.eq_nil_of_length_eq_zero (by simpa using h)

def zeroB (x : Cm) : Bool := decide (x.o = 0 ∧ x.c = 0 ∧ x.s = 0 ∧ x.k.size = 0 ∧ x.v.size = 0)
/-- What the program's Right tells. -/
def rightC (x : Cm) : Bool := zeroB x || okC x

theorem eq_cmd (x y : Cm) (w : World) : (binOp .eql 33 x.val y.val).run Try.prog w = .ok (.bool (x.o == y.o && (x.c == y.c && (x.s == y.s && (x.k.toList == y.k.toList && x.v.toList == y.v.toList))))) w := by
  have hS : Try.prog.underlying 33 = some (.struct (Try.prog.fieldsOf 33)) := by kernel_rfl
  have hp : Try.prog.stoodInHeld 33 = false := by kernel_rfl
  have u3 := Try.underlying3
  have u9 := Try.underlying9
  have u23 := Try.underlying23
  have a3 := Try.isAgg3
  have a9 := Try.isAgg9
  have a23 := Try.isAgg23
  have z3 := Try.sizeOf3
  have z9 := Try.sizeOf9
  have z23 := Try.sizeOf23
  unfold Cm.val
  rw [run_eql_struct, show (10000 : Nat) = 9999 + 1 from rfl, run_equalIn_agg w 9999 33 _ _ hS hp]
  simp only [Program.fieldsOf, Try.underlying33]
  go_simp
  by_cases h1 : x.o = y.o <;> by_cases h2 : x.c = y.c <;> by_cases h3 : x.s = y.s <;> by_cases h4 : (x.k.toList == y.k.toList) = true <;> by_cases h5 : (x.v.toList == y.v.toList) = true <;> simp_all

end Go.Proofs.Ytfcaneofkdaicaa
