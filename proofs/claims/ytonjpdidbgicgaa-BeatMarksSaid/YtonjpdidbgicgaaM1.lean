/-
  Chapter 19: BeatMarks on plain lists: what is new is told in order, each once, and is at its mark then.
-/
import Derived.Test.YtonjpdidbgicgaaS2
namespace Go.Proofs.Ytonjpdidbgicgaa
open Go.RowKit

/-- How many of the first k are owner o's. -/
def cntO (L : List (Int × Int)) (o : Nat) (k : Nat) : Nat := ((L.take k).filter fun p => p.1 == (o : Int)).length
theorem cntO_zero (L : List (Int × Int)) (o : Nat) : cntO L o 0 = 0 := rfl
theorem cntO_succ (L : List (Int × Int)) (o k : Nat) (h : k < L.length) : cntO L o (k + 1) = cntO L o k + if L[k].1 = (o : Int) then 1 else 0 := by
  unfold cntO
  rw [List.take_succ_eq_append_getElem h, List.filter_append, List.length_append]
  by_cases e : L[k].1 = (o : Int)
  · simp [e]
  · simp [e]
theorem cntO_app_left (L M : List (Int × Int)) (o k : Nat) (h : k ≤ L.length) : cntO (L ++ M) o k = cntO L o k := by
  unfold cntO
  rw [List.take_append_of_le_length h]
theorem cntO_app_right (L M : List (Int × Int)) (o k : Nat) : cntO (L ++ M) o (L.length + k) = cntO L o L.length + cntO M o k := by
  unfold cntO
  rw [List.take_length_add_append, List.take_length, List.filter_append, List.length_append]
theorem cntO_ids (s : BSt) (o i o' j : Nat) (hj : j ≤ i) : cntO (idsOf s o i) o' j = if o' = o then j else 0 := by
  induction j with
  | zero => rw [cntO_zero]; split <;> rfl
  | succ j ih =>
    have hl : j < (idsOf s o i).length := by rw [idsOf_length]; omega
    rw [cntO_succ _ _ _ hl, ih (by omega)]
    have e : (idsOf s o i)[j].1 = (o : Int) := by simp [idsOf]
    rw [e]
    by_cases h : o' = o
    · subst h; simp
    · have : ¬ (o : Int) = (o' : Int) := by omega
      simp [h, this]

theorem takeL_owner (s : BSt) (l : List Int) (K : Nat) : ∀ p ∈ takeL s l K, 1 ≤ p.1 ∧ p.1 ≤ K := by
  induction K with
  | zero => intro p hp; simp [takeL] at hp
  | succ K ih =>
    intro p hp
    simp only [takeL, List.mem_append] at hp
    rcases hp with hp | hp
    · have := ih p hp; omega
    · simp only [idsOf, List.mem_map, List.mem_range] at hp
      obtain ⟨j, _, rfl⟩ := hp
      simp only
      omega
theorem cntO_none (L : List (Int × Int)) (o K : Nat) (h : ∀ p ∈ L, 1 ≤ p.1 ∧ p.1 ≤ (K : Int)) (ho : o = 0 ∨ K < o) (k : Nat) : cntO L o k = 0 := by
  unfold cntO
  rw [List.length_eq_zero_iff, List.filter_eq_nil_iff]
  intro p hp
  have := h p (List.mem_of_mem_take hp)
  simp
  omega
theorem cntO_full (s : BSt) (l : List Int) (K o : Nat) : cntO (takeL s l K) o (takeL s l K).length = if 1 ≤ o ∧ o ≤ K then cntB s o (l.getD (o - 1) 0) else 0 := by
  induction K with
  | zero => simp [takeL, cntO]; omega
  | succ K ih =>
    simp only [takeL, List.length_append]
    rw [cntO_app_right, ih, idsOf_length, cntO_ids _ _ _ _ _ (Nat.le_refl _)]
    by_cases h : o = K + 1
    · subst h
      rw [if_neg (by omega), if_pos rfl, if_pos (by omega), Nat.zero_add, Nat.add_sub_cancel]
    · by_cases h2 : 1 ≤ o ∧ o ≤ K
      · rw [if_pos h2, if_neg h, if_pos (by omega), Nat.add_zero]
      · rw [if_neg h2, if_neg h, if_neg (by omega)]

/-- One that is told as new: its owner, its number, and that it stands behind the one ahead of it. -/
structure NewOk (s : BSt) (l : List Int) (K : Nat) (L : List (Int × Int)) (k : Nat) (p : Int × Int) : Prop where
  o1 : 1 ≤ p.1
  oK : p.1 ≤ K
  num : p.2 = s.mrk p.1.toNat + cntO L p.1.toNat k + 1
  le : p.2 ≤ l.getD (p.1.toNat - 1) 0
  ord : ∀ q, 0 < k → L[k - 1]? = some q → q.1 < p.1 ∨ (q.1 = p.1 ∧ q.2 < p.2)

theorem new_ok_at (s : BSt) (l : List Int) (h0 : ∀ o, 0 ≤ s.mrk o) : ∀ (K k : Nat) (hk : k < (takeL s l K).length), NewOk s l K (takeL s l K) k (takeL s l K)[k]
  | 0, k, hk => by simp [takeL] at hk
  | K + 1, k, hk => by
    have e : takeL s l (K + 1) = takeL s l K ++ idsOf s (K + 1) (cntB s (K + 1) (l.getD K 0)) := rfl
    rcases Nat.lt_or_ge k (takeL s l K).length with h | h
    · have ih := new_ok_at s l h0 K k h
      have e2 : (takeL s l (K + 1))[k] = (takeL s l K)[k] := by
        simp only [e]
        rw [List.getElem_append_left h]
      rw [e2]
      refine ⟨ih.o1, by have := ih.oK; omega, ?_, ih.le, fun q hq hp => ih.ord q hq ?_⟩
      · rw [e, cntO_app_left _ _ _ _ (by omega)]
        exact ih.num
      · rw [e, List.getElem?_append_left (by omega)] at hp
        exact hp
    · obtain ⟨j, hj⟩ : ∃ j, k = (takeL s l K).length + j := ⟨k - (takeL s l K).length, by omega⟩
      subst hj
      have hjl : j < cntB s (K + 1) (l.getD K 0) := by
        rw [e, List.length_append, idsOf_length] at hk
        omega
      have e2 : (takeL s l (K + 1))[(takeL s l K).length + j] = (((K + 1 : Nat) : Int), s.mrk (K + 1) + 1 + (j : Int)) := by
        simp only [e]
        rw [List.getElem_append_right (by omega)]
        simp [idsOf]
      rw [e2]
      have ht : ((((K + 1 : Nat) : Int), s.mrk (K + 1) + 1 + (j : Int)) : Int × Int).1.toNat = K + 1 := by simp
      have hz : cntO (takeL s l K) (K + 1) (takeL s l K).length = 0 := cntO_none _ _ K (takeL_owner s l K) (.inr (by omega)) _
      have hcnt : (cntB s (K + 1) (l.getD K 0) : Int) ≤ l.getD K 0 - s.mrk (K + 1) ∨ cntB s (K + 1) (l.getD K 0) = 0 := by unfold cntB; omega
      refine ⟨by simp; omega, by simp, ?_, ?_, ?_⟩
      · rw [ht, e, cntO_app_right, hz, cntO_ids _ _ _ _ _ (by omega), if_pos rfl]
        simp only
        omega
      · rw [ht]
        simp only [Nat.add_sub_cancel]
        omega
      · intro q hq hp
        rcases Nat.eq_zero_or_pos j with rfl | hj0
        · rw [e, List.getElem?_append_left (by omega)] at hp
          have := takeL_owner s l K q (List.mem_of_getElem? hp)
          left
          simp only
          omega
        · rw [e, List.getElem?_append_right (by omega), show (takeL s l K).length + j - 1 - (takeL s l K).length = j - 1 by omega] at hp
          simp only [idsOf, List.getElem?_map, List.getElem?_range (show j - 1 < cntB s (K + 1) (l.getD K 0) by omega), Option.map_some, Option.some.injEq] at hp
          subst hp
          right
          refine ⟨rfl, ?_⟩
          simp only
          omega

end Go.Proofs.Ytonjpdidbgicgaa
