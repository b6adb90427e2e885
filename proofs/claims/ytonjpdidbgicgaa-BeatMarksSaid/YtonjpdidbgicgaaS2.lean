/-
  The plain side of chapter 19, on: what Take takes. No program stands here.
-/
import Derived.Test.YtonjpdidbgicgaaS
namespace Go.Proofs.Ytonjpdidbgicgaa
open Go.RowKit

/-- How many of owner o are new, if another one is as far as mx. -/
def cntB (s : BSt) (o : Nat) (mx : Int) : Nat := min 64 (min mx 16777215 - s.mrk o).toNat

/-- For how many owners the other one's marks count. -/
def ownB (s : BSt) (l : List Int) : Nat := min l.length s.n.toNat

/-- The marks when the first k owners have been taken. -/
def takeS (s : BSt) (l : List Int) (k : Nat) : BSt :=
  { s with mrk := fun o => if 1 ≤ o ∧ o ≤ k then s.mrk o + cntB s o (l.getD (o - 1) 0) else s.mrk o }

/-- The instances of owner o that are new, i of them. -/
def idsOf (s : BSt) (o i : Nat) : List (Int × Int) := (List.range i).map fun j : Nat => ((o : Int), s.mrk o + 1 + (j : Int))

def takeL (s : BSt) (l : List Int) : Nat → List (Int × Int)
  | 0 => []
  | k + 1 => takeL s l k ++ idsOf s (k + 1) (cntB s (k + 1) (l.getD k 0))

def idCells (l : List (Int × Int)) : List Value := l.flatMap fun p => [.int .i64 p.1, .int .i64 p.2]

theorem idCells_append (a b : List (Int × Int)) : idCells (a ++ b) = idCells a ++ idCells b := by simp [idCells]
theorem idCells_length (l : List (Int × Int)) : (idCells l).length = l.length * 2 := by
  induction l with
  | nil => rfl
  | cons p l ih => simp only [idCells, List.flatMap_cons, List.length_append, List.length_cons, List.length_nil] at *; omega
theorem idCells_one (l : List (Int × Int)) : ∀ u ∈ idCells l, u.oneCell' = true := by
  intro u hu
  simp only [idCells, List.mem_flatMap, List.mem_cons, List.not_mem_nil, or_false] at hu
  obtain ⟨p, _, rfl | rfl⟩ := hu <;> rfl
theorem idCells_get0 (l : List (Int × Int)) (k : Nat) (hk : k < l.length) : (idCells l)[k * 2]? = some (.int .i64 l[k].1) := by
  induction l generalizing k with
  | nil => simp at hk
  | cons p l ih =>
    cases k with
    | zero => simp [idCells]
    | succ k =>
      have := ih k (by simpa using hk)
      simp only [idCells, List.flatMap_cons, List.getElem_cons_succ] at *
      rw [List.getElem?_append_right (by simp; omega)]
      simp only [List.length_cons, List.length_nil]
      rw [show (k + 1) * 2 - (0 + 1 + 1) = k * 2 by omega]
      exact this
theorem idCells_get1 (l : List (Int × Int)) (k : Nat) (hk : k < l.length) : (idCells l)[k * 2 + 1]? = some (.int .i64 l[k].2) := by
  induction l generalizing k with
  | nil => simp at hk
  | cons p l ih =>
    cases k with
    | zero => simp [idCells]
    | succ k =>
      have := ih k (by simpa using hk)
      simp only [idCells, List.flatMap_cons, List.getElem_cons_succ] at *
      rw [List.getElem?_append_right (by simp; omega)]
      simp only [List.length_cons, List.length_nil]
      rw [show (k + 1) * 2 + 1 - (0 + 1 + 1) = k * 2 + 1 by omega]
      exact this

theorem idsOf_succ (s : BSt) (o i : Nat) : idsOf s o (i + 1) = idsOf s o i ++ [((o : Int), s.mrk o + 1 + i)] := by simp [idsOf, List.range_succ]
theorem idsOf_length (s : BSt) (o i : Nat) : (idsOf s o i).length = i := by simp [idsOf]

/-- Owner k + 1 in the midst: i have been taken. -/
def midS (s : BSt) (l : List Int) (k i : Nat) : BSt := { takeS s l k with mrk := upd (takeS s l k).mrk (k + 1) (s.mrk (k + 1) + i) }

theorem BSt.mrk_ext {a b : BSt} (h1 : a.n = b.n) (h2 : a.me = b.me) (h3 : a.pat = b.pat) (h4 : a.was = b.was) (h5 : a.ht = b.ht) (h : ∀ o, a.mrk o = b.mrk o) : a = b := by
  have h6 : a.mrk = b.mrk := funext h
  cases a
  cases b
  simp_all

theorem takeS_zero (s : BSt) (l : List Int) : takeS s l 0 = s := by
  refine BSt.mrk_ext rfl rfl rfl rfl rfl fun o => ?_
  simp only [takeS]
  rw [if_neg (by omega)]

theorem takeS_mrk_succ (s : BSt) (l : List Int) (k : Nat) : (takeS s l k).mrk (k + 1) = s.mrk (k + 1) := by
  unfold takeS
  dsimp only
  rw [if_neg (by omega)]

theorem midS_zero (s : BSt) (l : List Int) (k : Nat) : midS s l k 0 = takeS s l k := by
  refine BSt.mrk_ext rfl rfl rfl rfl rfl fun o => ?_
  simp only [midS, upd]
  split
  · rename_i h; subst h; rw [takeS_mrk_succ]; simp
  · rfl

theorem midS_end (s : BSt) (l : List Int) (k : Nat) : midS s l k (cntB s (k + 1) (l.getD k 0)) = takeS s l (k + 1) := by
  refine BSt.mrk_ext rfl rfl rfl rfl rfl fun o => ?_
  simp only [midS, takeS, upd]
  by_cases h : o = k + 1
  · subst h
    rw [if_pos rfl, if_pos (by omega)]
    rfl
  · rw [if_neg h]
    by_cases h2 : 1 ≤ o ∧ o ≤ k
    · rw [if_pos h2, if_pos (by omega)]
    · rw [if_neg h2, if_neg (by omega)]

theorem midS_mrk (s : BSt) (l : List Int) (k i : Nat) : (midS s l k i).mrk (k + 1) = s.mrk (k + 1) + i := by simp [midS, upd]

theorem cntB_le (s : BSt) (o : Nat) (mx : Int) : cntB s o mx ≤ 64 := by unfold cntB; omega

theorem midS_Ok {s : BSt} (h : s.Ok) (l : List Int) (k i : Nat) (hi : i ≤ cntB s (k + 1) (l.getD k 0)) : (midS s l k i).Ok := by
  refine ⟨h.n1, h.n7, h.me1, h.men, h.p1, h.p2, h.ht0, h.ht1, fun o => ?_, fun o => ?_⟩
  · simp only [midS, upd, takeS]
    have := h.mk0 o
    have := h.mk0 (k + 1)
    split <;> (try split) <;> omega
  · simp only [midS, upd, takeS]
    have := h.mk1 o
    have := h.mk1 (k + 1)
    split
    · unfold cntB at hi; omega
    · split
      · unfold cntB; omega
      · omega

theorem takeS_Ok {s : BSt} (h : s.Ok) (l : List Int) (k : Nat) : (takeS s l k).Ok := by
  rw [← midS_zero]
  exact midS_Ok h l k 0 (by omega)

theorem mid_markB {s : BSt} (l : List Int) (k i : Nat) (hk : k < s.n.toNat) (ho : s.Ok) (hi : i < cntB s (k + 1) (l.getD k 0)) :
    markB (midS s l k i) ((k : Int) + 1) (s.mrk (k + 1) + i + 1) = true := by
  have e : ((k : Int) + 1).toNat = k + 1 := by omega
  have h0 := ho.mk0 (k + 1)
  have h1 := ho.n1
  unfold cntB at hi
  have hn : (midS s l k i).n = s.n := rfl
  simp only [markB, inB, e, midS_mrk, hn, Bool.and_eq_true, decide_eq_true_eq]
  omega

theorem mid_markS {s : BSt} (l : List Int) (k i : Nat) (hk : k < s.n.toNat) (ho : s.Ok) (hi : i < cntB s (k + 1) (l.getD k 0)) :
    markS (midS s l k i) ((k : Int) + 1) (s.mrk (k + 1) + i + 1) = midS s l k (i + 1) := by
  have e : ((k : Int) + 1).toNat = k + 1 := by omega
  simp only [markS, mid_markB l k i hk ho hi, if_true, e]
  refine BSt.mrk_ext rfl rfl rfl rfl rfl fun o => ?_
  simp only [midS, upd]
  split
  · omega
  · rfl

theorem mid_markB_no {s : BSt} (l : List Int) (k i : Nat) (h : 16777215 < s.mrk (k + 1) + i + 1) :
    markB (midS s l k i) ((k : Int) + 1) (s.mrk (k + 1) + i + 1) = false := by
  simp only [markB, Bool.and_eq_false_iff, decide_eq_false_iff_not]
  omega

theorem markS_of_no {s : BSt} {o n : Int} (h : markB s o n = false) : markS s o n = s := by simp [markS, h]

theorem takeL_length_le (s : BSt) (l : List Int) (k : Nat) : (takeL s l k).length ≤ 64 * k := by
  induction k with
  | zero => simp [takeL]
  | succ k ih =>
    have := cntB_le s (k + 1) (l.getD k 0)
    simp only [takeL, List.length_append, idsOf_length]
    omega

end Go.Proofs.Ytonjpdidbgicgaa
