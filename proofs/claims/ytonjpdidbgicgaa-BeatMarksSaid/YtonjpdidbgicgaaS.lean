/-
  The plain side of chapter 19: who was heard, the marks, as numbers and functions. No program stands here.
-/
import Derived.Test.YtonjpdidbgicgaaK
namespace Go.Proofs.Ytonjpdidbgicgaa
open Go.RowKit

structure BSt where
  n : Int
  me : Int
  pat : Int
  was : Nat → Bool
  ht : Nat → Int
  mrk : Nat → Int

def upd {α : Type} (f : Nat → α) (k : Nat) (v : α) : Nat → α := fun j => if j = k then v else f j

def BSt.init (n me p : Int) : BSt := ⟨n, me, p, fun _ => false, fun _ => 0, fun _ => 0⟩

def mayB (n me p : Int) : Bool := decide (1 ≤ n) && decide (n ≤ 7) && decide (1 ≤ me) && decide (me ≤ n) && decide (1 ≤ p) && decide (p ≤ 1000000)

def inB (n who : Int) : Bool := decide (1 ≤ who) && decide (who ≤ n)

def heardB (s : BSt) (who : Int) : Bool := inB s.n who && !(who == s.me)
def heardS (s : BSt) (who now : Int) : BSt :=
  if heardB s who = true then { s with was := upd s.was who.toNat true, ht := upd s.ht who.toNat (max (s.ht who.toNat) now) } else s

def aliveB (s : BSt) (who now : Int) : Bool :=
  who == s.me || (inB s.n who && s.was who.toNat && decide (max now (s.ht who.toNat) - s.ht who.toNat < s.pat))

def markB (s : BSt) (owner n : Int) : Bool := inB s.n owner && decide (1 ≤ n) && decide (n ≤ 16777215) && decide (s.mrk owner.toNat < n)
def markS (s : BSt) (owner n : Int) : BSt := if markB s owner n = true then { s with mrk := upd s.mrk owner.toNat n } else s

/-- How a state may be: its numbers are as New lets them be, each mark and time in its bounds. -/
structure BSt.Ok (s : BSt) : Prop where
  n1 : 1 ≤ s.n
  n7 : s.n ≤ 7
  me1 : 1 ≤ s.me
  men : s.me ≤ s.n
  p1 : 1 ≤ s.pat
  p2 : s.pat ≤ 1000000
  ht0 : ∀ k, 0 ≤ s.ht k
  ht1 : ∀ k, s.ht k ≤ 18446744073709551615
  mk0 : ∀ k, 0 ≤ s.mrk k
  mk1 : ∀ k, s.mrk k ≤ 16777215

/-- The cells of the program's struct. -/
def BSt.cell (s : BSt) (i : Nat) : Value :=
  if i = 0 then .int .i64 s.n else if i = 1 then .int .i64 s.me else if i = 2 then .int .u64 s.pat
  else if i < 19 then (if (i - 3) % 2 = 0 then .bool (s.was ((i - 3) / 2)) else .int .u64 (s.ht ((i - 3) / 2)))
  else .int .i64 (s.mrk (i - 19))

/-- The cells of the document's struct. -/
def BSt.rcell (s : BSt) (i : Nat) : Value :=
  if i = 0 then .int .i64 s.n else if i = 1 then .int .i64 s.me else if i = 2 then .int .u64 s.pat
  else if i < 11 then .bool (s.was (i - 3)) else if i < 19 then .int .u64 (s.ht (i - 11)) else .int .i64 (s.mrk (i - 19))

def IsBeat (w : World) (b : Nat) (s : BSt) : Prop := w.rowIs b 61 27 s.cell
def IsRef (w : World) (b : Nat) (s : BSt) : Prop := w.rowIs b 65 27 s.rcell

section
variable {w w' : World} {b : Nat} {s : BSt}
theorem IsBeat.c0 (h : IsBeat w b s) : w.cell? ⟨b, 0, none⟩ = some (.int .i64 s.n) := (h.cell (i := 0) (by omega)).trans (by simp [BSt.cell])
theorem IsBeat.c1 (h : IsBeat w b s) : w.cell? ⟨b, 1, none⟩ = some (.int .i64 s.me) := (h.cell (i := 1) (by omega)).trans (by simp [BSt.cell])
theorem IsBeat.c2 (h : IsBeat w b s) : w.cell? ⟨b, 2, none⟩ = some (.int .u64 s.pat) := (h.cell (i := 2) (by omega)).trans (by simp [BSt.cell])
theorem IsBeat.was (h : IsBeat w b s) (k : Nat) (hk : k < 8) : w.cell? ⟨b, 3 + k * 2, none⟩ = some (.bool (s.was k)) :=
  (h.cell (i := 3 + k * 2) (by omega)).trans (by
    unfold BSt.cell
    rw [if_neg (by omega), if_neg (by omega), if_neg (by omega), if_pos (by omega), if_pos (by omega), show (3 + k * 2 - 3) / 2 = k by omega])
theorem IsBeat.ht (h : IsBeat w b s) (k : Nat) (hk : k < 8) : w.cell? ⟨b, 3 + k * 2 + 1, none⟩ = some (.int .u64 (s.ht k)) :=
  (h.cell (i := 3 + k * 2 + 1) (by omega)).trans (by
    unfold BSt.cell
    rw [if_neg (by omega), if_neg (by omega), if_neg (by omega), if_pos (by omega), if_neg (by omega), show (3 + k * 2 + 1 - 3) / 2 = k by omega])
theorem IsBeat.mk (h : IsBeat w b s) (k : Nat) (hk : k < 8) : w.cell? ⟨b, 19 + k, none⟩ = some (.int .i64 (s.mrk k)) :=
  (h.cell (i := 19 + k) (by omega)).trans (by
    unfold BSt.cell
    rw [if_neg (by omega), if_neg (by omega), if_neg (by omega), if_neg (by omega), show 19 + k - 19 = k by omega])
theorem IsBeat.free (h : IsBeat w b s) (i : Nat) : w.frozen? ⟨b, i, none⟩ = false := World.rowIs.frozen h i
theorem IsBeat.lt (h : IsBeat w b s) : b < w.heap.size := World.rowIs.lt h

theorem IsBeat.heard (h : IsBeat w b s) (k : Nat) (hk : k < 8) (v : Int) :
    IsBeat ((w.setCell ⟨b, 3 + k * 2, none⟩ (.bool true)).setCell ⟨b, 3 + k * 2 + 1, none⟩ (.int .u64 v)) b { s with was := upd s.was k true, ht := upd s.ht k v } := by
  refine World.rowIs.congr ((World.rowIs.set h (3 + k * 2) (.bool true)).set (3 + k * 2 + 1) (.int .u64 v)) ?_
  intro i hi
  unfold BSt.cell upd
  by_cases h1 : i = 3 + k * 2 + 1
  · subst h1
    rw [if_pos rfl, if_neg (by omega), if_neg (by omega), if_neg (by omega), if_pos (by omega), if_neg (by omega)]; dsimp only; rw [if_pos (by omega)]
  · rw [if_neg h1]
    by_cases h2 : i = 3 + k * 2
    · subst h2
      rw [if_pos rfl, if_neg (by omega), if_neg (by omega), if_neg (by omega), if_pos (by omega), if_pos (by omega)]; dsimp only; rw [if_pos (by omega)]
    · rw [if_neg h2]
      by_cases h3 : i < 19
      · by_cases h4 : (i - 3) % 2 = 0
        · by_cases h5 : i = 0
          · subst h5; rfl
          · by_cases h6 : i = 1
            · subst h6; rfl
            · by_cases h7 : i = 2
              · subst h7; rfl
              · simp only [h3, h4, h5, h6, h7, if_true, if_false]
                rw [if_neg (by omega)]
        · simp only [h3, h4, if_true, if_false]
          rw [if_neg (by omega : ¬ (i - 3) / 2 = k)]
      · simp only [h3, if_false]

theorem IsBeat.marked (h : IsBeat w b s) (k : Nat) (hk : k < 8) (v : Int) :
    IsBeat (w.setCell ⟨b, 19 + k, none⟩ (.int .i64 v)) b { s with mrk := upd s.mrk k v } := by
  refine World.rowIs.congr (World.rowIs.set h (19 + k) (.int .i64 v)) ?_
  intro i hi
  unfold BSt.cell upd
  by_cases h1 : i = 19 + k
  · subst h1
    rw [if_pos rfl, if_neg (by omega), if_neg (by omega), if_neg (by omega), if_neg (by omega)]; dsimp only; rw [if_pos (by omega)]
  · rw [if_neg h1]
    by_cases h3 : i < 19
    · simp only [h3, if_true]
    · simp only [h3, if_false]
      rw [if_neg (by omega : ¬ i - 19 = k)]

theorem IsRef.c0 (h : IsRef w b s) : w.cell? ⟨b, 0, none⟩ = some (.int .i64 s.n) := (h.cell (i := 0) (by omega)).trans (by simp [BSt.rcell])
theorem IsRef.c1 (h : IsRef w b s) : w.cell? ⟨b, 1, none⟩ = some (.int .i64 s.me) := (h.cell (i := 1) (by omega)).trans (by simp [BSt.rcell])
theorem IsRef.c2 (h : IsRef w b s) : w.cell? ⟨b, 2, none⟩ = some (.int .u64 s.pat) := (h.cell (i := 2) (by omega)).trans (by simp [BSt.rcell])
theorem IsRef.was (h : IsRef w b s) (k : Nat) (hk : k < 8) : w.cell? ⟨b, 3 + k, none⟩ = some (.bool (s.was k)) :=
  (h.cell (i := 3 + k) (by omega)).trans (by
    unfold BSt.rcell
    rw [if_neg (by omega), if_neg (by omega), if_neg (by omega), if_pos (by omega), show 3 + k - 3 = k by omega])
theorem IsRef.ht (h : IsRef w b s) (k : Nat) (hk : k < 8) : w.cell? ⟨b, 11 + k, none⟩ = some (.int .u64 (s.ht k)) :=
  (h.cell (i := 11 + k) (by omega)).trans (by
    unfold BSt.rcell
    rw [if_neg (by omega), if_neg (by omega), if_neg (by omega), if_neg (by omega), if_pos (by omega), show 11 + k - 11 = k by omega])
theorem IsRef.mk (h : IsRef w b s) (k : Nat) (hk : k < 8) : w.cell? ⟨b, 19 + k, none⟩ = some (.int .i64 (s.mrk k)) :=
  (h.cell (i := 19 + k) (by omega)).trans (by
    unfold BSt.rcell
    rw [if_neg (by omega), if_neg (by omega), if_neg (by omega), if_neg (by omega), if_neg (by omega), show 19 + k - 19 = k by omega])
theorem IsRef.free (h : IsRef w b s) (i : Nat) : w.frozen? ⟨b, i, none⟩ = false := World.rowIs.frozen h i
theorem IsRef.lt (h : IsRef w b s) : b < w.heap.size := World.rowIs.lt h

theorem IsRef.heard (h : IsRef w b s) (k : Nat) (hk : k < 8) (v : Int) :
    IsRef ((w.setCell ⟨b, 3 + k, none⟩ (.bool true)).setCell ⟨b, 11 + k, none⟩ (.int .u64 v)) b { s with was := upd s.was k true, ht := upd s.ht k v } := by
  refine World.rowIs.congr ((World.rowIs.set h (3 + k) (.bool true)).set (11 + k) (.int .u64 v)) ?_
  intro i hi
  unfold BSt.rcell upd
  by_cases h1 : i = 11 + k
  · subst h1
    rw [if_pos rfl, if_neg (by omega), if_neg (by omega), if_neg (by omega), if_neg (by omega), if_pos (by omega)]; dsimp only; rw [if_pos (by omega)]
  · rw [if_neg h1]
    by_cases h2 : i = 3 + k
    · subst h2
      rw [if_pos rfl, if_neg (by omega), if_neg (by omega), if_neg (by omega), if_pos (by omega)]; dsimp only; rw [if_pos (by omega)]
    · rw [if_neg h2]
      by_cases h5 : i = 0
      · subst h5; rfl
      · by_cases h6 : i = 1
        · subst h6; rfl
        · by_cases h7 : i = 2
          · subst h7; rfl
          · by_cases h3 : i < 11
            · simp only [h3, h5, h6, h7, if_true, if_false]
              rw [if_neg (by omega)]
            · by_cases h4 : i < 19
              · simp only [h3, h4, h5, h6, h7, if_true, if_false]
                rw [if_neg (by omega)]
              · simp only [h3, h4, h5, h6, h7, if_false]

theorem IsRef.marked (h : IsRef w b s) (k : Nat) (hk : k < 8) (v : Int) :
    IsRef (w.setCell ⟨b, 19 + k, none⟩ (.int .i64 v)) b { s with mrk := upd s.mrk k v } := by
  refine World.rowIs.congr (World.rowIs.set h (19 + k) (.int .i64 v)) ?_
  intro i hi
  unfold BSt.rcell upd
  by_cases h1 : i = 19 + k
  · subst h1
    rw [if_pos rfl, if_neg (by omega), if_neg (by omega), if_neg (by omega), if_neg (by omega), if_neg (by omega)]; dsimp only; rw [if_pos (by omega)]
  · rw [if_neg h1]
    by_cases h3 : i < 19
    · by_cases h4 : i < 11
      · simp only [h3, h4, if_true]
      · simp only [h3, h4, if_true, if_false]
    · simp only [h3, if_false]
      rw [if_neg (by omega : ¬ i - 19 = k)]

theorem IsBeat.keep (h : IsBeat w b s) {row : Option Nat} (hg : w.grownBy w' row) (hne : some b ≠ row) : IsBeat w' b s := World.rowIs.of_block h (hg.block b h.lt hne)
theorem IsRef.keep (h : IsRef w b s) {row : Option Nat} (hg : w.grownBy w' row) (hne : some b ≠ row) : IsRef w' b s := World.rowIs.of_block h (hg.block b h.lt hne)
theorem IsBeat.alloc (h : IsBeat w b s) (o : Obj) : IsBeat (w.alloc o) b s := World.rowIs.alloc h o
theorem IsRef.alloc (h : IsRef w b s) (o : Obj) : IsRef (w.alloc o) b s := World.rowIs.alloc h o
end

theorem BSt.Ok.init {n me p : Int} (h : mayB n me p = true) : (BSt.init n me p).Ok := by
  simp only [mayB, Bool.and_eq_true, decide_eq_true_eq] at h
  obtain ⟨⟨⟨⟨⟨h1, h2⟩, h3⟩, h4⟩, h5⟩, h6⟩ := h
  exact ⟨h1, h2, h3, h4, h5, h6, fun _ => by simp [BSt.init], fun _ => by simp [BSt.init], fun _ => by simp [BSt.init], fun _ => by simp [BSt.init]⟩

theorem BSt.Ok.heard {s : BSt} (h : s.Ok) {who now : Int} (h0 : 0 ≤ now) (h1 : now ≤ 18446744073709551615) : (heardS s who now).Ok := by
  unfold heardS
  split
  · exact ⟨h.n1, h.n7, h.me1, h.men, h.p1, h.p2, fun k => by
      simp only [upd]
      split
      · have := h.ht0 who.toNat; omega
      · exact h.ht0 k, fun k => by
      simp only [upd]
      split
      · have := h.ht1 who.toNat; omega
      · exact h.ht1 k, h.mk0, h.mk1⟩
  · exact h

theorem BSt.Ok.mark {s : BSt} (h : s.Ok) (owner n : Int) : (markS s owner n).Ok := by
  unfold markS
  split
  · rename_i hm
    simp only [markB, Bool.and_eq_true, decide_eq_true_eq] at hm
    exact ⟨h.n1, h.n7, h.me1, h.men, h.p1, h.p2, h.ht0, h.ht1, fun k => by
      simp only [upd]
      split
      · omega
      · exact h.mk0 k, fun k => by
      simp only [upd]
      split
      · omega
      · exact h.mk1 k⟩
  · exact h

end Go.Proofs.Ytonjpdidbgicgaa
