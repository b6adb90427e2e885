/-
  Chapter 21: BagOnce on plain lists: which items are under way, when each is taken once.
-/
import Derived.Test.YtioehmlaaimeaaaP
import Derived.Laws.BytesArg
namespace Go.Proofs.Ytioehmlaaimeaaa
open Go.RowKit

/-- The item that bears number j, put at time j. -/
def itK (j : Nat) : It := ⟨1, 2, strOfNums [(j : Int)], j⟩
def onceL (js : List Nat) : List It := js.map itK
theorem onceL_len (js : List Nat) : (onceL js).length = js.length := by simp [onceL]
theorem onceL_at {js : List Nat} {k : Nat} (h : k < js.length) : itAt (onceL js) k = itK js[k] := by
  unfold itAt onceL
  rw [List.getElem?_map, List.getElem?_eq_getElem h]
  rfl
def minL : List Nat → Nat
  | [] => 0
  | [j] => j
  | j :: k :: js => min j (minL (k :: js))
theorem minL_le {js : List Nat} : ∀ j ∈ js, minL js ≤ j := by
  induction js with
  | nil => simp
  | cons a js ih =>
    cases js with
    | nil => simp [minL]
    | cons b js =>
      intro j hj
      simp only [minL]
      rcases List.mem_cons.1 hj with rfl | hj
      · omega
      · have := ih j hj; omega
theorem minL_mem {js : List Nat} (h : js ≠ []) : minL js ∈ js := by
  induction js with
  | nil => exact absurd rfl h
  | cons a js ih =>
    cases js with
    | nil => simp [minL]
    | cons b js =>
      simp only [minL]
      rcases Nat.le_total a (minL (b :: js)) with h1 | h1
      · rw [Nat.min_eq_left h1]; simp
      · rw [Nat.min_eq_right h1]; exact List.mem_cons_of_mem _ (ih (by simp))
theorem minL_unique {js : List Nat} {m : Nat} (h1 : m ∈ js) (h2 : ∀ j ∈ js, m ≤ j) : minL js = m := by
  have := minL_le m h1
  have := h2 _ (minL_mem (List.ne_nil_of_mem h1))
  omega
theorem oldR_once (js : List Nat) (h : js ≠ []) : oldR (onceL js) = (itK (minL js), true) := by
  have key : ∀ (l : List Nat) (a : Nat), (l.map itK).foldl oldS (itK a, true) = (itK (minL (a :: l)), true) := by
    intro l
    induction l with
    | nil => intro a; rfl
    | cons b l ih =>
      intro a
      rw [List.map_cons, List.foldl_cons]
      by_cases hb : b < a
      · have e : oldS (itK a, true) (itK b) = (itK b, true) := if_pos (by simp [itK]; omega)
        rw [e, ih b]
        congr 2
        symm
        refine minL_unique ?_ ?_
        · exact List.mem_cons_of_mem _ (minL_mem (by simp))
        · intro j hj
          rcases List.mem_cons.1 hj with rfl | hj
          · have := minL_le (js := b :: l) b (by simp); omega
          · exact minL_le j hj
      · have e : oldS (itK a, true) (itK b) = (itK a, true) := if_neg (by simp [itK]; omega)
        rw [e, ih a]
        congr 2
        symm
        refine minL_unique ?_ ?_
        · have := minL_mem (js := a :: l) (by simp)
          rcases List.mem_cons.1 this with h | h
          · rw [h]; simp
          · exact List.mem_cons_of_mem _ (List.mem_cons_of_mem _ h)
        · intro j hj
          rcases List.mem_cons.1 hj with rfl | hj
          · exact minL_le _ (by simp)
          · rcases List.mem_cons.1 hj with rfl | hj
            · have := minL_le (js := a :: l) a (by simp); omega
            · exact minL_le j (List.mem_cons_of_mem _ hj)
  cases js with
  | nil => exact absurd rfl h
  | cons a l =>
    show ((a :: l).map itK).foldl oldS (It.z, false) = _
    rw [List.map_cons, List.foldl_cons]
    exact key l a

/-- One is picked and made the last: the numbers. -/
def turnJ (js : List Nat) (k : Nat) : List Nat := js.take k ++ js.drop (k + 1)
theorem pickO {js : List Nat} {p : Int} (h0 : 0 ≤ p) (h : js ≠ []) : pickE (onceL js) p = 0 ∧ pickN (onceL js) p = (p % js.length).toNat ∧ (p % js.length).toNat < js.length := by
  have hl : 0 < js.length := List.length_pos_iff.2 h
  have hE : pickE (onceL js) p = 0 := by
    unfold pickE
    rw [onceL_len, if_neg (by omega), if_neg (by omega)]
  have hN : pickN (onceL js) p = (p % js.length).toNat := by
    unfold pickN
    rw [if_pos hE, onceL_len]
  exact ⟨hE, hN, by rw [← hN]; have := pick_lt hE; rwa [onceL_len] at this⟩
theorem takeO {js : List Nat} {p : Int} {k : Nat} (hE : pickE (onceL js) p = 0) (hN : pickN (onceL js) p = k) (hk : k < js.length) :
    takeX (onceL js) p = itK js[k] ∧ takeL (onceL js) p = onceL (turnJ js k) ∧ lastL (onceL js) p = onceL (turnJ js k ++ [js[k]]) := by
  have h1 : takeX (onceL js) p = itK js[k] := by rw [takeX, if_pos hE, hN, onceL_at hk]
  have h2 : takeL (onceL js) p = onceL (turnJ js k) := by
    rw [takeL, if_pos hE, hN]
    simp [onceL, turnJ, List.map_take, List.map_drop]
  refine ⟨h1, h2, ?_⟩
  rw [lastL, if_pos hE, h1, h2]
  simp [onceL]
theorem turnJ_perm {js : List Nat} {k : Nat} (hk : k < js.length) : (turnJ js k ++ [js[k]]).Perm js := by
  have e : js = js.take k ++ (js[k] :: js.drop (k + 1)) := by
    rw [List.getElem_cons_drop]
    exact (List.take_append_drop k js).symm
  have h1 : (turnJ js k ++ [js[k]]).Perm (js[k] :: turnJ js k) := List.perm_append_comm
  have h2 : (js[k] :: turnJ js k).Perm (js.take k ++ (js[k] :: js.drop (k + 1))) := by
    rw [turnJ]
    exact List.perm_middle.symm
  exact h1.trans (h2.trans (List.Perm.of_eq e.symm))
theorem turnJ_len {js : List Nat} {k : Nat} (hk : k < js.length) : (turnJ js k).length + 1 = js.length := by
  rw [turnJ, List.length_append, List.length_take, List.length_drop]
  omega
theorem minL_perm {js ks : List Nat} (h : js.Perm ks) (hne : ks ≠ []) : minL js = minL ks :=
  minL_unique (h.mem_iff.2 (minL_mem hne)) (fun j hj => minL_le j (h.mem_iff.1 hj))

/-- What is known when i were taken: the numbers that are left, and what has been marked. -/
structure Left (n i : Nat) (js : List Nat) (tk : Nat → Bool) : Prop where
  nd : js.Nodup
  lt : ∀ j ∈ js, j < n
  len : js.length + i = n
  free : ∀ j ∈ js, tk j = false

theorem Left.taken {n i : Nat} {js : List Nat} {tk : Nat → Bool} (h : Left n i js tk) {ks : List Nat} (hp : ks.Perm js) {k : Nat} (hk : k < ks.length) :
    ks[k] < n ∧ tk ks[k] = false ∧ Left n (i + 1) (turnJ ks k) (fun j => if j = ks[k] then true else tk j) := by
  have hm : ks[k] ∈ js := hp.mem_iff.1 (List.getElem_mem hk)
  have hp2 : (turnJ ks k ++ [ks[k]]).Perm js := (turnJ_perm hk).trans hp
  have hnd : (turnJ ks k ++ [ks[k]]).Nodup := hp2.nodup_iff.2 h.nd
  have hmem : ∀ j ∈ turnJ ks k, j ∈ js := fun j hj => hp2.mem_iff.1 (List.mem_append_left _ hj)
  refine ⟨h.lt _ hm, h.free _ hm, ⟨(List.nodup_append.1 hnd).1, fun j hj => h.lt j (hmem j hj), ?_, fun j hj => ?_⟩⟩
  · have := turnJ_len hk
    have := hp.length_eq
    have := h.len
    omega
  · have hne : j ≠ ks[k] := (List.nodup_append.1 hnd).2.2 j hj _ (by simp)
    rw [if_neg hne]
    exact h.free j (hmem j hj)

end Go.Proofs.Ytioehmlaaimeaaa
