/-
  Chapter 18: WaitOnce, plain: what waits while times go by.
-/
import Derived.Test.YtflalllbplcgbaaY
namespace Go.Proofs.Ytflalllbplcgbaa
open Go.RowKit Go.Sort Go.Maps Go.Shelf

/-- The wait laid at round i. -/
def onceIt (L : List Int) (i : Nat) : It := ⟨1 + (i : Int) % 7, 1 + (i : Int) / 7, L.getD i 0 % 16, i⟩
def BytesL (L : List Int) : Prop := ∀ k, 0 ≤ L.getD k 0 ∧ L.getD k 0 ≤ 255
/-- What still waits at a time: those laid, but for the one stopped, whose time is not past. -/
def leftI (L : List Int) (n s : Nat) (now : Int) : List Nat := (List.range n).filter fun i => decide (i ≠ s) && decide (now ≤ L.getD i 0 % 16)
def leftL (L : List Int) (n s : Nat) (now : Int) : List It := (leftI L n s now).map (onceIt L)
def onceL (L : List Int) (k : Nat) : List It := (List.range k).map (onceIt L)

theorem once_is {L : List Int} {i j : Nat} : (onceIt L i).is (onceIt L j).o (onceIt L j).n ↔ i = j := by
  unfold It.is onceIt
  constructor
  · rintro ⟨h1, h2⟩
    simp only at h1 h2
    omega
  · rintro rfl
    exact ⟨rfl, rfl⟩
theorem once_inj {L : List Int} {i j : Nat} (h : onceIt L i = onceIt L j) : i = j := by
  have : (i : Int) = (j : Int) := show (onceIt L i).t = (onceIt L j).t by rw [h]
  omega
theorem once_at {L : List Int} (hL : BytesL L) (i : Nat) : 0 ≤ (onceIt L i).at_ ∧ (onceIt L i).at_ ≤ 15 := by
  have := hL i
  show 0 ≤ L.getD i 0 % 16 ∧ L.getD i 0 % 16 ≤ 15
  omega
theorem once_ok {L : List Int} (hL : BytesL L) {i : Nat} (hi : i ≤ 100) : (onceIt L i).Ok := by
  have h := once_at hL i
  refine ⟨?_, ?_, ⟨h.1, by omega⟩, ?_⟩
  · show Fits (1 + (i : Int) % 7); unfold Fits; omega
  · show Fits (1 + (i : Int) / 7); unfold Fits; omega
  · show Fits (i : Int); unfold Fits; omega
theorem once_set {L : List Int} {i : Nat} (hi : i ≤ 100) : setOk (onceIt L i) = true := by
  unfold setOk
  rw [Bool.and_eq_true]
  refine ⟨rightB_true.2 ⟨?_, ?_⟩, ?_⟩
  · show 1 ≤ 1 + (i : Int) % 7 ∧ 1 + (i : Int) % 7 ≤ 7; omega
  · show 1 ≤ 1 + (i : Int) / 7 ∧ 1 + (i : Int) / 7 ≤ 16777215; omega
  · show decide (0 ≤ (i : Int)) = true
    exact decide_eq_true (by omega)
theorem putL_new {x : It} : ∀ {l : List It}, (∀ y ∈ l, ¬ y.is x.o x.n) → putL x l = l ++ [x]
  | [], _ => rfl
  | y :: r, h => by rw [putL, if_neg (h y List.mem_cons_self), putL_new fun z hz => h z (List.mem_cons_of_mem _ hz)]; rfl
theorem once_put (L : List Int) (k : Nat) : putL (onceIt L k) (onceL L k) = onceL L (k + 1) := by
  rw [putL_new]
  · unfold onceL; rw [List.range_succ, List.map_append]; rfl
  · intro y hy h
    obtain ⟨i, hi, rfl⟩ := List.mem_map.1 hy
    have := once_is.1 h
    have := List.mem_range.1 hi
    omega

theorem leftL_mem {L : List Int} {n s : Nat} {now : Int} {x : It} : x ∈ leftL L n s now ↔ ∃ i, i < n ∧ i ≠ s ∧ now ≤ L.getD i 0 % 16 ∧ x = onceIt L i := by
  unfold leftL leftI
  rw [List.mem_map]
  constructor
  · rintro ⟨i, hi, rfl⟩
    obtain ⟨h1, h2⟩ := List.mem_filter.1 hi
    rw [Bool.and_eq_true, decide_eq_true_eq, decide_eq_true_eq] at h2
    exact ⟨i, List.mem_range.1 h1, h2.1, h2.2, rfl⟩
  · rintro ⟨i, h1, h2, h3, rfl⟩
    exact ⟨i, List.mem_filter.2 ⟨List.mem_range.2 h1, by rw [Bool.and_eq_true, decide_eq_true_eq, decide_eq_true_eq]; exact ⟨h2, h3⟩⟩, rfl⟩
theorem leftL_nodup (L : List Int) (n s : Nat) (now : Int) : (leftL L n s now).Nodup := by
  unfold leftL leftI
  have h : ((List.range n).filter fun i => decide (i ≠ s) && decide (now ≤ L.getD i 0 % 16)).Nodup := List.nodup_range.filter _
  rw [List.Nodup, List.pairwise_map]
  exact h.imp fun hne e => hne (once_inj e)
theorem leftL_len_le (L : List Int) (n s : Nat) (now : Int) : (leftL L n s now).length ≤ n := by
  unfold leftL leftI
  rw [List.length_map]
  exact Nat.le_trans (List.length_filter_le _ _) (by simp)

theorem once_stop {L : List Int} (hL : BytesL L) (n s : Nat) : delL (onceIt L s).o (onceIt L s).n (onceL L n) = leftL L n s 0 := by
  unfold delL onceL leftL leftI
  rw [List.filter_map]
  congr 1
  refine List.filter_congr fun i _ => ?_
  have h := once_is (L := L) (i := i) (j := s)
  have h2 := hL i
  have h3 : decide ((0 : Int) ≤ L.getD i 0 % 16) = true := decide_eq_true (by omega)
  rw [h3, Bool.and_true]
  by_cases e : i = s
  · simp [e, once_is]
  · simp [e, once_is]

theorem delAll_filter : ∀ (d l : List It), delAll d l = l.filter fun x => d.all fun y => !decide (x.is y.o y.n)
  | [], l => (List.filter_eq_self.2 fun _ _ => rfl).symm
  | y :: r, l => by
    rw [delAll, delAll_filter r, delL, List.filter_filter]
    refine List.filter_congr fun x _ => ?_
    simp [Bool.and_comm]

theorem due_mem {L : List Int} {n s : Nat} {now : Int} {q : List It} (hq : q.Perm (leftL L n s now)) {x : It} : x ∈ dueL now q ↔ ∃ i, i < n ∧ i ≠ s ∧ L.getD i 0 % 16 = now ∧ x = onceIt L i := by
  unfold dueL lateB
  rw [List.mem_filter, hq.mem_iff, leftL_mem]
  constructor
  · rintro ⟨⟨i, h1, h2, h3, rfl⟩, h4⟩
    have h5 : ¬ now < L.getD i 0 % 16 := by simpa [onceIt] using h4
    exact ⟨i, h1, h2, by omega, rfl⟩
  · rintro ⟨i, h1, h2, h3, rfl⟩
    refine ⟨⟨i, h1, h2, by omega, rfl⟩, ?_⟩
    have h5 : ¬ now < (onceIt L i).at_ := by show ¬ now < L.getD i 0 % 16; omega
    simp [h5]
theorem due_same {L : List Int} {n s : Nat} {now : Int} {q : List It} (hq : q.Perm (leftL L n s now)) : byAt (dueL now q) = dueL now q := by
  refine byAt_same (t := now) fun x hx => ?_
  obtain ⟨i, _, _, h, rfl⟩ := (due_mem hq).1 hx
  exact h
theorem due_left {L : List Int} {n s : Nat} {now : Int} {q : List It} (hq : q.Perm (leftL L n s now)) : delAll (dueL now q) (leftL L n s now) = leftL L n s (now + 1) := by
  rw [delAll_filter]
  unfold leftL leftI
  rw [List.filter_map, List.filter_filter]
  congr 1
  refine List.filter_congr fun i hi => ?_
  have hin := List.mem_range.1 hi
  rw [Bool.eq_iff_iff]
  simp only [Bool.and_eq_true, Function.comp, List.all_eq_true, Bool.not_eq_true', decide_eq_false_iff_not, decide_eq_true_eq]
  constructor
  · rintro ⟨h1, h2, h3⟩
    refine ⟨h2, ?_⟩
    have : ¬ L.getD i 0 % 16 = now := fun e => h1 (onceIt L i) ((due_mem hq).2 ⟨i, hin, h2, e, rfl⟩) ⟨rfl, rfl⟩
    omega
  · rintro ⟨h2, h3⟩
    refine ⟨fun y hy h => ?_, h2, by omega⟩
    obtain ⟨j, _, _, hj, rfl⟩ := (due_mem hq).1 hy
    have := once_is.1 h
    subst this
    omega
theorem due_count {L : List Int} {n s : Nat} {now : Int} {q : List It} (hq : q.Perm (leftL L n s now)) : (dueL now q).length + (leftL L n s (now + 1)).length = (leftL L n s now).length := by
  have h1 : (dueL now q).Perm (dueL now (leftL L n s now)) := hq.filter _
  rw [h1.length_eq]
  have h2 : leftL L n s (now + 1) = (leftL L n s now).filter fun x => lateB now x := by
    unfold leftL leftI
    rw [List.filter_map, List.filter_filter]
    congr 1
    refine List.filter_congr fun i _ => ?_
    rw [Bool.eq_iff_iff]
    simp only [Bool.and_eq_true, Function.comp, decide_eq_true_eq, lateB, onceIt]
    constructor
    · rintro ⟨h2, h3⟩; exact ⟨decide_eq_true (by omega), h2, by omega⟩
    · rintro ⟨h1, h2, h3⟩; have h4 := of_decide_eq_true h1; exact ⟨h2, by omega⟩
  rw [h2]
  unfold dueL
  have h3 : ∀ l : List It, (l.filter fun x => !lateB now x).length + (l.filter fun x => lateB now x).length = l.length := by
    intro l
    induction l with
    | nil => rfl
    | cons y r ih => cases h : lateB now y <;> simp [h] <;> omega
  exact h3 _
theorem due_le {L : List Int} {n s : Nat} {now : Int} {q : List It} (hq : q.Perm (leftL L n s now)) : (dueL now q).length ≤ (leftL L n s now).length := by
  have := due_count hq; omega
theorem due_order {L : List Int} {n s : Nat} {now : Int} {q : List It} (hq : q.Perm (leftL L n s now)) (hs : SortedIds q) {k : Nat} {x y : It} (hx : (dueL now q)[k]? = some x) (hy : (dueL now q)[k + 1]? = some y) : ordZ (x.o, x.n) (y.o, y.n) < 0 := by
  have h1 : SortedIds (dueL now q) := List.Pairwise.sublist List.filter_sublist hs
  have hnd : (dueL now q).Nodup := List.Nodup.sublist List.filter_sublist (hq.nodup_iff.2 (leftL_nodup L n s now))
  obtain ⟨hk1, e1⟩ := List.getElem?_eq_some_iff.1 hx
  obtain ⟨hk2, e2⟩ := List.getElem?_eq_some_iff.1 hy
  have h2 := (List.pairwise_iff_getElem.1 h1) k (k + 1) hk1 hk2 (by omega)
  have h3 := (List.pairwise_iff_getElem.1 hnd) k (k + 1) hk1 hk2 (by omega)
  rw [e1, e2] at h2 h3
  rw [ordZ_neg]
  obtain ⟨i, _, _, _, hi⟩ := (due_mem hq).1 (List.mem_of_getElem? hx)
  obtain ⟨j, _, _, _, hj⟩ := (due_mem hq).1 (List.mem_of_getElem? hy)
  have h4 : ¬ i = j := fun e => h3 (by rw [hi, hj, e])
  rw [hi, hj] at h2 ⊢
  have h5 : ¬ ((onceIt L i).o = (onceIt L j).o ∧ (onceIt L i).n = (onceIt L j).n) := fun h => h4 (once_is.1 h)
  omega

theorem left_all {L : List Int} (hL : BytesL L) {n s : Nat} (hs : s < n) : (leftL L n s 0).length + 1 = n := by
  have h : leftL L n s 0 = ((List.range n).filter fun i => !decide (i = s)).map (onceIt L) := by
    unfold leftL leftI
    congr 1
    refine List.filter_congr fun i _ => ?_
    have := hL i
    rw [show decide ((0 : Int) ≤ L.getD i 0 % 16) = true from decide_eq_true (by omega), Bool.and_true]
    simp
  rw [h, List.length_map]
  have h3 : ∀ l : List Nat, l.Nodup → s ∈ l → (l.filter fun i => !decide (i = s)).length + 1 = l.length := by
    intro l
    induction l with
    | nil => intro _ h; cases h
    | cons y r ih =>
      intro hnd hm
      obtain ⟨h1, h2⟩ := List.nodup_cons.1 hnd
      by_cases e : y = s
      · subst e
        have : (r.filter fun i => !decide (i = y)) = r := List.filter_eq_self.2 fun a ha => by
          have : a ≠ y := fun e => h1 (e ▸ ha)
          simp [this]
        simp [this]
      · have := ih h2 (by rcases List.mem_cons.1 hm with h | h; exact absurd h.symm e; exact h)
        simp [e]; omega
  have := h3 (List.range n) List.nodup_range (List.mem_range.2 hs)
  simpa using this
theorem left_end {L : List Int} (hL : BytesL L) (n s : Nat) : leftL L n s 16 = [] := by
  have : ∀ x, ¬ x ∈ leftL L n s 16 := by
    intro x hx
    obtain ⟨i, _, _, h, _⟩ := leftL_mem.1 hx
    have := hL i
    omega
  exact List.eq_nil_iff_forall_not_mem.2 this

end Go.Proofs.Ytflalllbplcgbaa
