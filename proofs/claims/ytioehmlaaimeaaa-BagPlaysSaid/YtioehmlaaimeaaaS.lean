/-
  The plain side of chapter 21: a bag of items as a list; the blocks that bear it.
-/
import Derived.Test.YtioehmlaaimeaaaK
namespace Go.Proofs.Ytioehmlaaimeaaa
open Go.RowKit

structure It where
  fr : Int
  to : Int
  by_ : ByteArray
  at_ : Int

def It.z : It := ⟨0, 0, ⟨#[]⟩, 0⟩
def It.cells (x : It) : List Value := [.int .i64 x.fr, .int .i64 x.to, .string x.by_, .int .u64 x.at_]
abbrev It.val (x : It) : Value := .agg #[.int .i64 x.fr, .int .i64 x.to, .string x.by_, .int .u64 x.at_]
def cellsOf (l : List It) : List Value := l.flatMap It.cells
theorem cellsOf_len (l : List It) : (cellsOf l).length = l.length * 4 := by
  induction l with
  | nil => rfl
  | cons x l ih =>
    rw [cellsOf, List.flatMap_cons, List.length_append]
    have : (l.flatMap It.cells).length = l.length * 4 := ih
    rw [this]
    simp only [It.cells, List.length_cons, List.length_nil]
    omega
theorem cellsOf_append (l m : List It) : cellsOf (l ++ m) = cellsOf l ++ cellsOf m := List.flatMap_append
theorem cellsOf_one (x : It) : cellsOf [x] = x.cells := by simp [cellsOf]
theorem cells_one (x : It) : ∀ u ∈ x.cells, u.oneCell' = true := by
  intro u hu
  simp only [It.cells, List.mem_cons, List.not_mem_nil, or_false] at hu
  rcases hu with rfl | rfl | rfl | rfl <;> rfl
theorem cellsOf_oneCell (l : List It) : ∀ u ∈ cellsOf l, u.oneCell' = true := by
  intro u hu
  obtain ⟨x, _, hx⟩ := List.mem_flatMap.1 hu
  exact cells_one x u hx

/-- The item at a place. -/
def itAt (l : List It) (k : Nat) : It := (l[k]?).getD It.z
theorem itAt_some {l : List It} {k : Nat} (h : k < l.length) : l[k]? = some (itAt l k) := by
  unfold itAt
  rw [List.getElem?_eq_getElem h]
  rfl
theorem cellsOf_at (l : List It) (k j : Nat) (hk : k < l.length) (hj : j < 4) : (cellsOf l)[k * 4 + j]? = (itAt l k).cells[j]? := by
  induction l generalizing k with
  | nil => simp at hk
  | cons x l ih =>
    have e : cellsOf (x :: l) = x.cells ++ cellsOf l := by rw [cellsOf, List.flatMap_cons]; rfl
    have h4 : x.cells.length = 4 := rfl
    rw [e]
    cases k with
    | zero =>
      rw [Nat.zero_mul, Nat.zero_add, List.getElem?_append_left (by omega)]
      rfl
    | succ k =>
      rw [List.getElem?_append_right (by omega), h4, show (k + 1) * 4 + j - 4 = k * 4 + j by omega]
      have h := ih k (by simpa using hk)
      rw [h]
      unfold itAt
      rw [List.getElem?_cons_succ]
theorem cellsOf_take (l : List It) (k : Nat) (hk : k ≤ l.length) : (cellsOf l).take (k * 4) = cellsOf (l.take k) := by
  have h : cellsOf l = cellsOf (l.take k) ++ cellsOf (l.drop k) := by rw [← cellsOf_append, List.take_append_drop]
  rw [h, List.take_append_of_le_length (by rw [cellsOf_len, List.length_take]; omega), List.take_of_length_le (by rw [cellsOf_len, List.length_take]; omega)]
theorem cellsOf_drop (l : List It) (k : Nat) (hk : k ≤ l.length) : (cellsOf l).drop (k * 4) = cellsOf (l.drop k) := by
  have h : cellsOf l = cellsOf (l.take k) ++ cellsOf (l.drop k) := by rw [← cellsOf_append, List.take_append_drop]
  rw [h, List.drop_append_of_le_length (by rw [cellsOf_len, List.length_take]; omega), List.drop_of_length_le (by rw [cellsOf_len, List.length_take]; omega), List.nil_append]

/-- A bag: its own block, its row of items. T: the struct's type, E: the items'. -/
structure BagIs (T E : TypeId) (w : World) (base b : Nat) (v : Value) (l : List It) (room : Int) : Prop where
  blk : Blk w b T #[v, .int .i64 room]
  own : w.ownsRow base E 4 v l.length (cellsOf l)
  gb : base ≤ b
  lr : (l.length : Int) ≤ room
  r1 : 1 ≤ room
  r2 : room ≤ 512

/-- Only the bag's block and its row are turned. -/
structure Ap (w w' : World) (b : Nat) (v : Value) : Prop where
  os : w'.os = w.os
  tape : w'.tape = w.tape
  output : w'.output = w.output
  size : w.heap.size ≤ w'.heap.size
  block : ∀ k, k < w.heap.size → k ≠ b → v.ownBlock ≠ some k → w'.heap[k]? = w.heap[k]?

/-- The row is the old one, or a new one, or none. -/
def Nw (w : World) (v v' : Value) : Prop := ∀ g, v'.ownBlock = some g → v.ownBlock = some g ∨ w.heap.size ≤ g

theorem Nw.refl (w : World) (v : Value) : Nw w v v := fun _ h => .inl h
theorem Nw.trans {w w' : World} {v v' v'' : Value} (h : Nw w v v') (k : Nw w' v' v'') (hs : w.heap.size ≤ w'.heap.size) : Nw w v v'' := fun g hg => by
  rcases k g hg with h1 | h1
  · exact h g h1
  · exact .inr (by omega)

theorem Nw.mono {w w' : World} {v v' : Value} (h : Nw w' v v') (hs : w.heap.size ≤ w'.heap.size) : Nw w v v' := fun g hg => by
  rcases h g hg with h1 | h1
  · exact .inl h1
  · exact .inr (by omega)

theorem Ap.refl (w : World) (b : Nat) (v : Value) : Ap w w b v := ⟨rfl, rfl, rfl, Nat.le_refl _, fun _ _ _ _ => rfl⟩
theorem Ap.of_below {w w' : World} (h : Below w.heap.size w w') (b : Nat) (v : Value) : Ap w w' b v := ⟨h.os, h.tape, h.output, h.size, fun k hk _ _ => h.block k hk⟩
theorem Ap.trans {w w' w'' : World} {b : Nat} {v v' : Value} (h : Ap w w' b v) (k : Ap w' w'' b v') (hn : Nw w v v') : Ap w w'' b v :=
  ⟨k.os.trans h.os, k.tape.trans h.tape, k.output.trans h.output, Nat.le_trans h.size k.size, fun i hi h1 h2 => (k.block i (Nat.lt_of_lt_of_le hi h.size) h1 (fun e => by
    rcases hn i e with h3 | h3
    · exact h2 h3
    · omega)).trans (h.block i hi h1 h2)⟩
theorem Ap.drew {w w' : World} {b : Nat} {v : Value} (h : Ap w w' b v) : Ap w w'.drew b v := ⟨h.os, h.tape, h.output, h.size, h.block⟩
theorem Ap.drewN {w w' : World} {b : Nat} {v : Value} (h : Ap w w' b v) (n : Nat) : Ap w (w'.drewN n) b v := ⟨h.os, h.tape, h.output, h.size, h.block⟩
theorem Ap.undrew {w w' : World} {b : Nat} {v : Value} (h : Ap w.drew w' b v) : Ap w w' b v := ⟨h.os, h.tape, h.output, h.size, h.block⟩
theorem Ap.below {w w' : World} {b : Nat} {v : Value} {B : Nat} (h : Ap w w' b v) (hB : B ≤ w.heap.size) (hb : B ≤ b) (hv : ∀ g, v.ownBlock = some g → B ≤ g) : Below B w w' :=
  ⟨h.os, h.tape, h.output, h.size, fun k hk => h.block k (by omega) (by omega) (fun e => by have := hv k e; omega)⟩
theorem Ap.grown {w w' w'' : World} {b : Nat} {v : Value} {r : Option Nat} (h : Ap w w' b v) (k : w'.grownBy w'' r) (hr : ∀ g, r = some g → g = b ∨ v.ownBlock = some g ∨ w.heap.size ≤ g) : Ap w w'' b v :=
  ⟨k.os.trans h.os, k.tape.trans h.tape, k.output.trans h.output, Nat.le_trans h.size k.size, fun i hi h1 h2 => (k.block i (Nat.lt_of_lt_of_le hi h.size) (fun e => by
    rcases hr i e.symm with h3 | h3 | h3
    · exact h1 h3
    · exact h2 h3
    · omega)).trans (h.block i hi h1 h2)⟩
theorem Ap.set {w w' : World} {b : Nat} {v : Value} (h : Ap w w' b v) (o : Nat) (u : Value) : Ap w (w'.setCell ⟨b, o, none⟩ u) b v :=
  h.grown (only_set (World.grownBy.refl w' (some b)) o u) (fun g e => .inl (by injection e with e; exact e.symm))
theorem Ap.alloc {w w' : World} {b : Nat} {v : Value} (h : Ap w w' b v) (o : Obj) : Ap w (w'.alloc o) b v :=
  h.grown (World.grownBy_alloc w' o none) (fun g e => by cases e)
theorem Ap.blk {w w' : World} {b g : Nat} {v : Value} {t : TypeId} {cs : Array Value} (h : Ap w w' b v) (k : Blk w g t cs) (h1 : g ≠ b) (h2 : v.ownBlock ≠ some g) : Blk w' g t cs := (h.block g k.lt h1 h2).trans k

namespace BagIs
variable {T E T' E' : TypeId} {w w' : World} {base base' b b' : Nat} {v v' : Value} {l l' : List It} {room room' : Int}
theorem own_ge (h : BagIs T E w base b v l room) : ∀ g, v.ownBlock = some g → base ≤ g ∧ g < w.heap.size := fun g hg => h.own.lt g hg
theorem own_ty (h : BagIs T E w base b v l room) {g t : Nat} {cs : Array Value} (k : Blk w g t cs) (ht : t ≠ E) : v.ownBlock ≠ some g := by
  intro e
  rcases h.own.2 with ⟨rfl, _⟩ | ⟨g', cap, cur, rfl, _, hg, _⟩
  · simp [Value.ownBlock] at e
  · simp [Value.ownBlock] at e
    subst e
    have h2 : w.heap[g']? = some (.cells cs t (0, 0)) := k
    rw [h2] at hg
    simp at hg
    exact ht hg.2
theorem ne (h : BagIs T E w base b v l room) (ht : T ≠ E) : v.ownBlock ≠ some b := h.own_ty h.blk ht
theorem lt (h : BagIs T E w base b v l room) : b < w.heap.size := h.blk.lt
theorem drew (h : BagIs T E w base b v l room) : BagIs T E w.drew base b v l room := ⟨h.blk, h.own, h.gb, h.lr, h.r1, h.r2⟩
theorem drewN (h : BagIs T E w base b v l room) (n : Nat) : BagIs T E (w.drewN n) base b v l room := ⟨h.blk, h.own, h.gb, h.lr, h.r1, h.r2⟩
theorem alloc (h : BagIs T E w base b v l room) (o : Obj) : BagIs T E (w.alloc o) base b v l room := ⟨h.blk.alloc o, h.own.alloc o, h.gb, h.lr, h.r1, h.r2⟩
theorem below (h : BagIs T E w base b v l room) (k : Below w.heap.size w w') : BagIs T E w' base b v l room :=
  ⟨h.blk.below k h.lt, h.own.kept (row := none) (below_grown_none k) (by cases hv : v.ownBlock <;> simp), h.gb, h.lr, h.r1, h.r2⟩
/-- Another bag, of other types, stands as it stood. -/
theorem other (h : BagIs T E w base b v l room) (k : BagIs T' E' w base' b' v' l' room') (a : Ap w w' b' v') (h1 : T ≠ T') (h2 : T ≠ E') (h3 : E ≠ T') (h4 : E ≠ E') : BagIs T E w' base b v l room := by
  have n1 : b ≠ b' := h.blk.ne_ k.blk h1
  have n2 : v'.ownBlock ≠ some b := k.own_ty h.blk h2
  refine ⟨a.blk h.blk n1 n2, ⟨h.own.1, ?_⟩, h.gb, h.lr, h.r1, h.r2⟩
  rcases h.own.2 with hn | ⟨g, cap, cur, rfl, hb, hgg, rest⟩
  · exact .inl hn
  · refine .inr ⟨g, cap, cur, rfl, hb, ?_, rest⟩
    have hk : Blk w g E cur := hgg
    rw [a.block g hk.lt (hk.ne_ k.blk h3) (k.own_ty hk h4)]
    exact hgg
/-- A cell of an item. -/
theorem cell (h : BagIs T E w base b v l room) {k j : Nat} {u : Value} (hk : k < l.length) (hj : j < 4) (hu : (itAt l k).cells[j]? = some u) {g cap : Nat} (hv : v = .slice (some ⟨g, 0, none⟩) l.length cap) :
    w.cell? ⟨g, k * 4 + j, none⟩ = some u := by
  have := h.own.cells (g := g) (by rw [hv]; rfl) (k * 4 + j) u (by rw [cellsOf_at l k j hk hj]; exact hu)
  rwa [show (⟨g, 0, none⟩ : Addr).add (k * 4 + j) = ⟨g, k * 4 + j, none⟩ by unfold Addr.add; split <;> simp_all] at this
theorem shape (h : BagIs T E w base b v l room) : (v = .slice none 0 0 ∧ l = []) ∨ ∃ g cap, v = .slice (some ⟨g, 0, none⟩) l.length cap ∧ base ≤ g ∧ g < w.heap.size ∧ l.length ≤ cap ∧ cap ≤ maxLen := by
  rcases h.own.2 with ⟨rfl, h0⟩ | ⟨g, cap, cur, rfl, hb, hg, hc, hm, _⟩
  · exact .inl ⟨rfl, List.eq_nil_of_length_eq_zero h0⟩
  · have hk : Blk w g E cur := hg
    exact .inr ⟨g, cap, rfl, hb, hk.lt, hc, hm⟩
theorem slice (h : BagIs T E w base b v l room) : ∃ A cap, v = .slice A l.length cap := by
  rcases h.shape with ⟨rfl, rfl⟩ | ⟨g, cap, rfl, _⟩
  · exact ⟨none, 0, rfl⟩
  · exact ⟨_, cap, rfl⟩
end BagIs

end Go.Proofs.Ytioehmlaaimeaaa
