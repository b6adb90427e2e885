/-
  Chapter 18: New, Right, Set, Stop, Of: walked.
-/
import Derived.Test.YtflalllbplcgbaaB
namespace Go.Proofs.Ytflalllbplcgbaa
open Go.RowKit Go.Sort Go.Maps

structure It where
  o : Int
  n : Int
  at_ : Int
  t : Int

def It.cells (x : It) : List Value := [.int .i64 x.o, .int .i64 x.n, .int .u64 x.at_, .int .i64 x.t]
def It.val (x : It) : Value := .agg #[.int .i64 x.o, .int .i64 x.n, .int .u64 x.at_, .int .i64 x.t]
def It.entry (x : It) : Value × Value := (keyV x.o x.n, x.val)
def It.is (x : It) (o n : Int) : Prop := x.o = o ∧ x.n = n
instance (x : It) (o n : Int) : Decidable (x.is o n) := by unfold It.is; infer_instance
def It.Ok (x : It) : Prop := Fits x.o ∧ Fits x.n ∧ (0 ≤ x.at_ ∧ x.at_ ≤ 18446744073709551615) ∧ Fits x.t

theorem keyV_inj {a b c d : Int} : keyV a b = keyV c d ↔ a = c ∧ b = d := by
  unfold keyV
  constructor
  · intro h
    simp only [Value.agg.injEq] at h
    have h := congrArg Array.toList h
    simp only [List.cons.injEq, Value.int.injEq, true_and, and_true] at h
    exact h
  · rintro ⟨rfl, rfl⟩
    rfl

def putL (x : It) : List It → List It
  | [] => [x]
  | y :: r => if y.is x.o x.n then x :: r else y :: putL x r
def delL (o n : Int) (l : List It) : List It := l.filter fun x => !decide (x.is o n)
def getL (o n : Int) (l : List It) : Option It := l.find? fun x => decide (x.is o n)

theorem putL_entry (x : It) : ∀ l : List It, putP (keyV x.o x.n) x.val (l.map It.entry) = (putL x l).map It.entry
  | [] => rfl
  | y :: r => by
    rw [List.map_cons, putP, putL]
    by_cases h : y.is x.o x.n
    · rw [if_pos (show y.entry.1 = keyV x.o x.n from keyV_inj.2 h), if_pos h]; rfl
    · rw [if_neg (show ¬ y.entry.1 = keyV x.o x.n from fun e => h (keyV_inj.1 e)), if_neg h, putL_entry x r]; rfl
theorem delL_entry (o n : Int) (l : List It) : delP (keyV o n) (l.map It.entry) = (delL o n l).map It.entry := by
  unfold delP delL
  rw [List.filter_map]
  congr 1
  refine List.filter_congr fun x _ => ?_
  have h : (x.entry.1 = keyV o n) ↔ x.is o n := keyV_inj
  simp [Function.comp, h]
theorem getL_entry (o n : Int) (l : List It) : getP (keyV o n) (l.map It.entry) = (getL o n l).map It.val := by
  classical
  unfold getP getL
  rw [List.find?_map]
  have : (fun x : It => decide (x.entry.1 = keyV o n)) = fun x => decide (x.is o n) := by
    funext x
    exact decide_eq_decide.2 keyV_inj
  simp only [Function.comp_def, this, Option.map_map]
  rfl

/-- The waits at B, their map at b: those that wait are l, in the order in which they were laid. -/
structure WS (w0 w : World) (B b : Nat) (l : List It) : Prop where
  bel : Below w0.heap.size w0 w
  blk : Blk w B 67 #[.map (some b)]
  map : MapIs Try.prog 36 w b (l.map It.entry)
  gB : w0.heap.size ≤ B
  gb : w0.heap.size ≤ b
  ok : ∀ x ∈ l, x.Ok

section
variable {w0 w w' : World} {B b : Nat} {l : List It}
theorem WS.ne (h : WS w0 w B b l) : b ≠ B := h.map.ne_blk h.blk
theorem WS.grown {row : Option Nat} (h : WS w0 w B b l) (hg : w.grownBy w' row) (h1 : some B ≠ row) (h2 : some b ≠ row) (h3 : ∀ g, row = some g → w0.heap.size ≤ g) : WS w0 w' B b l :=
  ⟨h.bel.grown hg h.bel.size h3, h.blk.grown hg h1, h.map.grown hg h2, h.gB, h.gb, h.ok⟩
theorem WS.below (h : WS w0 w B b l) (hg : Below w.heap.size w w') : WS w0 w' B b l :=
  h.grown (row := none) (below_grown_none hg) (by simp) (by simp) (by simp)
theorem WS.gr (h : WS w0 w B b l) (hg : Gr w w') : WS w0 w' B b l := h.below hg.below
theorem WS.alloc (h : WS w0 w B b l) (o : Obj) : WS w0 (w.alloc o) B b l := h.gr ((Gr.refl w).alloc o)
theorem WS.drewN (h : WS w0 w B b l) (n : Nat) : WS w0 (w.drewN n) B b l := h.gr ((Gr.refl w).drewN n)
theorem WS.drew (h : WS w0 w B b l) : WS w0 w.drew B b l := h.drewN 1
theorem WS.set_ (h : WS w0 w B b l) {l' : List It} (hg : w.grownBy w' (some b)) (hm : MapIs Try.prog 36 w' b (l'.map It.entry)) (hok : ∀ x ∈ l', x.Ok) : WS w0 w' B b l' :=
  ⟨h.bel.grown hg h.bel.size (fun g e => by injection e with e; subst e; exact h.gb), h.blk.grown hg (fun e => h.ne (by injection e with e; exact e.symm)), hm, h.gB, h.gb, hok⟩
theorem WS.cell (h : WS w0 w B b l) : w.cell? ⟨B, 0, none⟩ = some (.map (some b)) := (h.blk.cell 0).trans rfl
end

set_option maxHeartbeats 400000 in
theorem new_any (w0 w : World) (hw : Below w0.heap.size w0 w) : Calls Try.prog 10 #[] w fun e w' => ∃ B b, e = .returned (.pointer (some ⟨B, 0, none⟩)) ∧ WS w0 w' B b [] := by
  have hmm := @run_makeMap Try.prog
  go_enter Try.func10, Try.ntmps10
  go_wp2_with fail
  go_ret
  refine ⟨_, _, rfl, ?_, ?_, (MapIs.made Try.prog 36 w).alloc _, ?_, hw.size, by simp⟩
  · exact (hw.alloc hw.size _).alloc (by have := hw.size; simp; omega) _
  · have := Blk.new (w.alloc (.map #[] 0)) 67 #[.map (some w.heap.size)]
    rw [World.size_alloc] at this
    exact this
  · have := hw.size; omega

def rightB (o n : Int) : Bool := decide (1 ≤ o) && decide (o ≤ 7) && decide (1 ≤ n) && decide (n ≤ 16777215)
theorem rightB_true {o n : Int} : rightB o n = true ↔ (1 ≤ o ∧ o ≤ 7) ∧ 1 ≤ n ∧ n ≤ 16777215 := by simp [rightB, and_assoc]

set_option maxHeartbeats 1000000 in
theorem right_any (o n : Int) (w : World) : Calls Try.prog 26 #[keyV o n] w fun e w' => e = .returned (.bool (rightB o n)) ∧ Gr w w' := by
  unfold keyV
  rcases Int.lt_or_le o 1 with h | h1
  · rw [show rightB o n = false from by simp [rightB]; omega]
    have h' : ¬ 1 ≤ o := by omega
    go_enter Try.func26, Try.ntmps26
    go_wp2_with fail
    go_ret
    exact ⟨rfl, (Gr.refl w).alloc _⟩
  rcases Int.lt_or_le 7 o with h | h2
  · rw [show rightB o n = false from by simp [rightB]; omega]
    have h' : ¬ o ≤ 7 := by omega
    go_enter Try.func26, Try.ntmps26
    go_wp2_with fail
    go_ret
    exact ⟨rfl, (Gr.refl w).alloc _⟩
  rcases Int.lt_or_le n 1 with h | h3
  · rw [show rightB o n = false from by simp [rightB]; omega]
    have h' : ¬ 1 ≤ n := by omega
    go_enter Try.func26, Try.ntmps26
    go_wp2_with fail
    go_ret
    exact ⟨rfl, (Gr.refl w).alloc _⟩
  rcases Int.lt_or_le 16777215 n with h | h4
  · rw [show rightB o n = false from by simp [rightB]; omega]
    have h' : ¬ n ≤ 16777215 := by omega
    go_enter Try.func26, Try.ntmps26
    go_wp2_with fail
    go_ret
    exact ⟨rfl, (Gr.refl w).alloc _⟩
  · rw [show rightB o n = true from by simp [rightB]; omega]
    go_enter Try.func26, Try.ntmps26
    go_wp2_with fail
    go_ret
    exact ⟨rfl, (Gr.refl w).alloc _⟩

end Go.Proofs.Ytflalllbplcgbaa
