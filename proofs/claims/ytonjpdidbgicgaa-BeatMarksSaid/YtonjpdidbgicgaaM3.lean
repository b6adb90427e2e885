/-
  Chapter 19: BeatMarks: the struct beside the table of what was told.
-/
import Derived.Test.YtonjpdidbgicgaaM2
import Derived.Test.YtonjpdidbgicgaaK2
import Derived.Deep.CutBlock
namespace Go.Proofs.Ytonjpdidbgicgaa
open Go.RowKit

structure MW (w0 w : World) (b ga : Nat) (s : BSt) (a : Nat → Int) : Prop where
  own : Own w0 w b s
  row : w.rowIs ga 50 4 (fun j => .int .i64 (a j))
  ge : w0.heap.size ≤ ga
  ne : ga ≠ b

section
variable {w0 w w' : World} {b ga : Nat} {s s' : BSt} {a : Nat → Int}
theorem MW.drewN (h : MW w0 w b ga s a) (n : Nat) : MW w0 (w.drewN n) b ga s a := ⟨h.own.drewN n, rowIs_drewN h.row n, h.ge, h.ne⟩
theorem MW.drew (h : MW w0 w b ga s a) : MW w0 w.drew b ga s a := h.drewN 1
theorem MW.alloc (h : MW w0 w b ga s a) (o : Obj) : MW w0 (w.alloc o) b ga s a := ⟨h.own.alloc o, h.row.alloc o, h.ge, h.ne⟩
theorem MW.below (h : MW w0 w b ga s a) (hb : Below w.heap.size w w') : MW w0 w' b ga s a :=
  ⟨h.own.below hb, h.row.of_block (hb.block ga h.row.lt), h.ge, h.ne⟩
theorem MW.side {row : Option Nat} {B : Nat} (h : MW w0 w b ga s a) (hg : w.grownBy w' row) (hr : ∀ g, row = some g → B ≤ g) (h0 : w0.heap.size ≤ B) (h1 : b < B) (h2 : ga < B) : MW w0 w' b ga s a :=
  ⟨⟨h.own.bel.grown hg h.own.bel.size (fun g e => Nat.le_trans h0 (hr g e)), h.own.bt.keep hg (fun e => by have := hr b e.symm; omega), h.own.ok, h.own.ge⟩,
    h.row.of_block (hg.block ga h.row.lt (fun e => by have := hr ga e.symm; omega)), h.ge, h.ne⟩
theorem MW.only (h : MW w0 w b ga s a) (hg : w.grownBy w' (some b)) (ho : Own w0 w' b s') : MW w0 w' b ga s' a :=
  ⟨ho, h.row.of_block (hg.block ga h.row.lt (fun e => h.ne (Option.some.inj e))), h.ge, h.ne⟩
theorem MW.cell (h : MW w0 w b ga s a) {j : Nat} (hj : j < 4) : w.cell? ⟨ga, j, none⟩ = some (.int .i64 (a j)) := h.row.cell hj
theorem MW.free (h : MW w0 w b ga s a) (j : Nat) : w.frozen? ⟨ga, j, none⟩ = false := h.row.frozen j
theorem MW.store (h : MW w0 w b ga s a) (j : Nat) (v : Int) : MW w0 (w.setCell ⟨ga, j, none⟩ (.int .i64 v)) b ga s (upd a j v) :=
  ⟨⟨h.own.bel.setCell (p := ⟨ga, j, none⟩) h.ge _, World.rowIs.setOther h.own.bt (a := ⟨ga, j, none⟩) (fun e => h.ne e.symm) _, h.own.ok, h.own.ge⟩,
    (World.rowIs.set h.row j (.int .i64 v)).congr (fun i _ => by unfold upd; by_cases e : i = j <;> simp [e]), h.ge, h.ne⟩
end

theorem ordZ_lt {p q : Int × Int} (h : q.1 < p.1 ∨ (q.1 = p.1 ∧ q.2 < p.2)) : ordZ q p < 0 := by
  unfold ordZ cmpZ
  rcases h with h | ⟨h1, h2⟩
  · rw [if_pos h]; simp
  · simp [h1, h2]

end Go.Proofs.Ytonjpdidbgicgaa
