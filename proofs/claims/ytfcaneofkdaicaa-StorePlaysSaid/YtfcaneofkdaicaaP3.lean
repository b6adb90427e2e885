/-
  Chapter 16, plain: the keys, put in order one by one.
-/
import Derived.Test.YtfcaneofkdaicaaP1
namespace Go.Proofs.Ytfcaneofkdaicaa
open Go.RowKit Go.Sort Go.Maps Go.Shelf

abbrev Bs := List UInt8
theorem bs_gt {a b : Bs} (h : ¬ a < b) (hn : a ≠ b) : b < a := by
  rcases List.le_iff_lt_or_eq.1 (List.not_lt.1 h) with h | h
  · exact h
  · exact absurd h.symm hn
theorem sorted_one : ∀ {l m : List Bs}, l.Pairwise (· < ·) → m.Pairwise (· < ·) → (∀ x, x ∈ l ↔ x ∈ m) → l = m
  | [], [], _, _, _ => rfl
  | [], b :: s, _, _, h => absurd ((h b).2 List.mem_cons_self) (by simp)
  | a :: r, [], _, _, h => absurd ((h a).1 List.mem_cons_self) (by simp)
  | a :: r, b :: s, h1, h2, h => by
    rw [List.pairwise_cons] at h1 h2
    have hab : a = b := by
      rcases List.mem_cons.1 ((h a).1 List.mem_cons_self) with e | e
      · exact e
      · rcases List.mem_cons.1 ((h b).2 List.mem_cons_self) with e2 | e2
        · exact e2.symm
        · exact absurd (List.lt_trans (h1.1 b e2) (h2.1 a e)) (List.lt_irrefl _)
    subst hab
    rw [sorted_one h1.2 h2.2 fun x => ⟨fun hx => ?_, fun hx => ?_⟩]
    · rcases List.mem_cons.1 ((h x).1 (List.mem_cons_of_mem _ hx)) with e | e
      · exact absurd (h1.1 x hx) (by rw [e]; exact List.lt_irrefl _)
      · exact e
    · rcases List.mem_cons.1 ((h x).2 (List.mem_cons_of_mem _ hx)) with e | e
      · exact absurd (h2.1 x hx) (by rw [e]; exact List.lt_irrefl _)
      · exact e
/-- The keys that the first commands name, in order. -/
structure KeysTo (acc : List Cm) (i : Nat) (xs : List Bs) : Prop where
  up : xs.Pairwise (· < ·)
  mem : ∀ kk, kk ∈ xs ↔ ∃ x ∈ acc.take i, x.k.data.toList = kk ∧ (valOf acc x.k).isSome = true
  len : xs.length ≤ i
theorem KeysTo.nil (acc : List Cm) : KeysTo acc 0 [] := ⟨.nil, by simp, Nat.le_refl _⟩
section
variable {acc : List Cm} {i : Nat} {xs : List Bs} {x : Cm}
theorem KeysTo.skip (h : KeysTo acc i xs) (hx : acc[i]? = some x) (hs : (valOf acc x.k).isSome = false ∨ x.k.data.toList ∈ xs) : KeysTo acc (i + 1) xs := by
  obtain ⟨hi, e⟩ := List.getElem?_eq_some_iff.1 hx
  refine ⟨h.up, fun kk => ?_, by have := h.len; omega⟩
  rw [h.mem, List.take_succ_eq_append_getElem hi, e]
  constructor
  · rintro ⟨y, hy, h1⟩
    exact ⟨y, List.mem_append_left _ hy, h1⟩
  · rintro ⟨y, hy, h1, h2⟩
    rcases List.mem_append.1 hy with hy | hy
    · exact ⟨y, hy, h1, h2⟩
    · rw [List.mem_singleton.1 hy] at h1 h2
      rcases hs with hs | hs
      · rw [hs] at h2; cases h2
      · exact (h.mem kk).1 (h1 ▸ hs)
theorem KeysTo.put (h : KeysTo acc i xs) (hx : acc[i]? = some x) (hs : (valOf acc x.k).isSome = true) {a : Nat} (ha : a ≤ xs.length) (hlt : ∀ j, j < a → (xs.getD j []) < x.k.data.toList)
    (hge : a < xs.length → ¬ (xs.getD a []) < x.k.data.toList ∧ xs.getD a [] ≠ x.k.data.toList) : KeysTo acc (i + 1) (xs.take a ++ [x.k.data.toList] ++ xs.drop a) := by
  obtain ⟨hi, e⟩ := List.getElem?_eq_some_iff.1 hx
  have hxs := List.take_append_drop a xs
  have hup := h.up
  rw [← hxs, List.pairwise_append] at hup
  obtain ⟨u1, u2, u3⟩ := hup
  have ht : ∀ y ∈ xs.take a, y < x.k.data.toList := by
    intro y hy
    obtain ⟨j, hj, rfl⟩ := List.mem_iff_getElem.1 hy
    rw [List.length_take] at hj
    have := hlt j (by omega)
    rw [List.getElem_take]
    simpa [List.getD, show j < xs.length by omega] using this
  have hd : ∀ y ∈ xs.drop a, x.k.data.toList < y := by
    intro y hy
    have hal : a < xs.length := by
      rcases Nat.lt_or_ge a xs.length with h | h
      · exact h
      · rw [List.drop_of_length_le h] at hy; cases hy
    obtain ⟨g1, g2⟩ := hge hal
    have hgt := bs_gt g1 g2
    have hg : xs.getD a [] = xs[a] := by simp [List.getD, hal]
    rw [hg] at hgt
    rw [List.drop_eq_getElem_cons hal] at hy u2
    rw [List.pairwise_cons] at u2
    rcases List.mem_cons.1 hy with rfl | hy
    · exact hgt
    · exact List.lt_trans hgt (u2.1 y hy)
  refine ⟨?_, fun kk => ?_, ?_⟩
  · rw [List.append_assoc, List.pairwise_append]
    refine ⟨u1, ?_, fun y hy z hz => ?_⟩
    · rw [List.singleton_append, List.pairwise_cons]
      exact ⟨hd, u2⟩
    · rcases List.mem_append.1 hz with hz | hz
      · rw [List.mem_singleton.1 hz]; exact ht y hy
      · exact u3 y hy z hz
  · have hm : kk ∈ xs.take a ++ [x.k.data.toList] ++ xs.drop a ↔ kk ∈ xs ∨ kk = x.k.data.toList := by
      conv => rhs; rw [← hxs]
      simp only [List.mem_append, List.mem_singleton]
      constructor
      · rintro ((h | h) | h)
        · exact .inl (.inl h)
        · exact .inr h
        · exact .inl (.inr h)
      · rintro ((h | h) | h)
        · exact .inl (.inl h)
        · exact .inr h
        · exact .inl (.inr h)
    rw [hm, h.mem, List.take_succ_eq_append_getElem hi, e]
    constructor
    · rintro (⟨y, hy, h1⟩ | rfl)
      · exact ⟨y, List.mem_append_left _ hy, h1⟩
      · exact ⟨x, List.mem_append_right _ (List.mem_singleton.2 rfl), rfl, hs⟩
    · rintro ⟨y, hy, h1, h2⟩
      rcases List.mem_append.1 hy with hy | hy
      · exact .inl ⟨y, hy, h1, h2⟩
      · rw [List.mem_singleton.1 hy] at h1
        exact .inr h1.symm
  · have := h.len
    simp only [List.length_append, List.length_take, List.length_drop, List.length_singleton]
    omega
theorem KeysTo.done (h : KeysTo acc acc.length xs) : xs = keysOf acc := by
  have tr : ∀ a b c : List UInt8, leB a b = true → leB b c = true → leB a c = true := fun a b c h1 h2 => by simp only [leB, decide_eq_true_eq] at *; exact List.le_trans h1 h2
  have tot : ∀ a b : List UInt8, (leB a b || leB b a) = true := fun a b => by simp only [leB, Bool.or_eq_true, decide_eq_true_eq]; exact List.le_total a b
  have hs : (keysOf acc).Pairwise fun a b => leB a b = true := by unfold keysOf; exact List.pairwise_mergeSort tr tot _
  have hn := keys_nodup acc
  rw [List.nodup_iff_pairwise_ne] at hn
  refine sorted_one h.up ((hs.and hn).imp fun {a b} h => ?_) fun kk => ?_
  · obtain ⟨h1, h2⟩ := h
    simp only [leB, decide_eq_true_eq] at h1
    rcases List.le_iff_lt_or_eq.1 h1 with h | h
    · exact h
    · exact absurd h h2
  · rw [h.mem, List.take_length]
    constructor
    · rintro ⟨y, _, rfl, h2⟩
      exact val_key h2
    · intro hk
      have h1 := key_val hk
      have h0 := h1
      rw [← valsOf_get] at h1
      obtain ⟨y, hy, e⟩ := vals_keys _ (aGet_isSome.1 h1)
      exact ⟨y, hy, by rw [e], by rw [e]; exact h0⟩
end

end Go.Proofs.Ytfcaneofkdaicaa
