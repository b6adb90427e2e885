/-
  Chapter 16, plain: logs replayed come to the same.
-/
import Derived.Test.YtfcaneofkdaicaaP1
namespace Go.Proofs.Ytfcaneofkdaicaa
open Go.RowKit Go.Sort Go.Maps Go.Shelf

def apart (x z : Cm) : Prop := ¬ (x.c = z.c ∧ x.s = z.s)
theorem pair_any {l : List Cm} (h : l.Pairwise apart) : ∀ (i j : Nat) x z, l[i]? = some x → l[j]? = some z → i ≠ j → apart x z := by
  intro i j x z hx hz hij
  obtain ⟨hi, rfl⟩ := List.getElem?_eq_some_iff.1 hx
  obtain ⟨hj, rfl⟩ := List.getElem?_eq_some_iff.1 hz
  rcases Nat.lt_or_gt_of_ne hij with h1 | h1
  · exact (List.pairwise_iff_getElem.1 h) i j hi hj h1
  · have := (List.pairwise_iff_getElem.1 h) j i hj hi h1
    exact fun e => this ⟨e.1.symm, e.2.symm⟩
theorem one_apart {acc : List Cm} (h : AccOk acc) : acc.Pairwise apart := h.one
theorem mem_apart {acc : List Cm} (h : AccOk acc) {x z : Cm} (hx : x ∈ acc) (hz : z ∈ acc) (hk : x.k ≠ z.k) : apart x z := by
  obtain ⟨i, hi, rfl⟩ := List.getElem_of_mem hx
  obtain ⟨j, hj, rfl⟩ := List.getElem_of_mem hz
  refine pair_any (one_apart h) i j _ _ (List.getElem?_eq_getElem hi) (List.getElem?_eq_getElem hj) ?_
  rintro rfl
  exact hk rfl

def kS (i : Nat) : ByteArray := if i = 0 then ⟨#[97]⟩ else if i = 1 then ⟨#[98]⟩ else ⟨#[99]⟩
theorem kS_size (i : Nat) : (kS i).size = 1 := by unfold kS; split <;> (try split) <;> rfl
theorem kS_inj {i j : Nat} (hi : i < 3) (hj : j < 3) (h : kS i = kS j) : i = j := by
  have : (i = 0 ∨ i = 1 ∨ i = 2) ∧ (j = 0 ∨ j = 1 ∨ j = 2) := by omega
  obtain ⟨h1, h2⟩ := this
  rcases h1 with rfl | rfl | rfl <;> rcases h2 with rfl | rfl | rfl <;> first | rfl | exact absurd h (by decide)
/-- What is replayed: the logs of the first keys. -/
def replN (acc : List Cm) : Nat → List Cm
  | 0 => []
  | i + 1 => replN acc i ++ logOf acc (kS i)
theorem replN_mem {acc : List Cm} {x : Cm} : ∀ {i : Nat}, x ∈ replN acc i → x ∈ acc ∧ ∃ j, j < i ∧ x.k = kS j
  | 0, h => by cases h
  | i + 1, h => by
    rcases List.mem_append.1 h with h | h
    · obtain ⟨h1, j, h2, h3⟩ := replN_mem h
      exact ⟨h1, j, by omega, h3⟩
    · obtain ⟨h1, h2⟩ := List.mem_filter.1 h
      exact ⟨h1, i, by omega, of_decide_eq_true h2⟩
theorem repl_new {acc : List Cm} (h : AccOk acc) {i j : Nat} (hi : i < 3) {x : Cm} (hx : (logOf acc (kS i))[j]? = some x) :
    newC (replN acc i ++ (logOf acc (kS i)).take j) x = true ∧ applyC (replN acc i ++ (logOf acc (kS i)).take j) x = replN acc i ++ (logOf acc (kS i)).take (j + 1) := by
  obtain ⟨hxa, hxk⟩ := List.mem_filter.1 (List.mem_of_getElem? hx)
  have hxk := of_decide_eq_true hxk
  have hn : newC (replN acc i ++ (logOf acc (kS i)).take j) x = true := by
    unfold newC
    rw [h.ok x hxa, Bool.true_and, Bool.not_eq_true', List.any_eq_false]
    intro z hz
    have : apart z x := by
      rcases List.mem_append.1 hz with hz | hz
      · obtain ⟨hza, j', hj', hzk⟩ := replN_mem hz
        refine mem_apart h hza hxa ?_
        rw [hzk, hxk]
        intro e
        have := kS_inj (by omega) hi e
        omega
      · obtain ⟨j', hj', rfl⟩ := List.getElem_of_mem hz
        have hl : (logOf acc (kS i)).Pairwise apart := List.Pairwise.sublist List.filter_sublist (one_apart h)
        have hj2 : j' < j := by rw [List.length_take] at hj'; omega
        refine pair_any hl j' j _ _ ?_ hx (by omega)
        rw [List.getElem_take]
        exact List.getElem?_eq_getElem _
    unfold apart at this
    unfold Cm.asks
    simpa using this
  refine ⟨hn, ?_⟩
  unfold applyC
  rw [if_pos hn, List.append_assoc]
  congr 1
  obtain ⟨hj, rfl⟩ := List.getElem?_eq_some_iff.1 hx
  rw [List.take_succ_eq_append_getElem hj]

/-- The last command of a log that is no Get. -/
def lastS (r : Cm) (x : Cm) : Cm := if x.o = 2 then r else x
def lastOf (l : List Cm) : Cm := l.foldl lastS Cm.zero
theorem lastOf_snoc (l : List Cm) (x : Cm) : lastOf (l ++ [x]) = lastS (lastOf l) x := by unfold lastOf; rw [List.foldl_append]; rfl
theorem last_val {acc : List Cm} (h : ∀ x ∈ acc, okC x = true) (k : ByteArray) : (valOf acc k).isSome = decide ((lastOf (logOf acc k)).o = 1) ∧ (valOf acc k).getD ⟨#[]⟩ = (lastOf (logOf acc k)).v := by
  have : ∀ r : List Cm, (∀ x ∈ r, okC x = true) → (valOf r.reverse k).isSome = decide ((lastOf (logOf r.reverse k)).o = 1) ∧ (valOf r.reverse k).getD ⟨#[]⟩ = (lastOf (logOf r.reverse k)).v := by
    intro r
    induction r with
    | nil => intro _; exact ⟨rfl, rfl⟩
    | cons x r ih =>
      intro hr
      have ih' := ih fun y hy => hr y (List.mem_cons_of_mem _ hy)
      have hx := of_decide_eq_true (show decide _ = true from hr x List.mem_cons_self)
      rw [List.reverse_cons, valOf_snoc, logOf_snoc]
      unfold stepO
      by_cases e : x.k = k
      · rw [if_pos e, if_pos e, lastOf_snoc]
        unfold lastS
        have ho : x.o = 1 ∨ x.o = 2 ∨ x.o = 3 := by omega
        rcases ho with h1 | h1 | h1
        · rw [if_pos h1, if_neg (by omega), h1]; exact ⟨rfl, rfl⟩
        · rw [if_neg (by omega), if_neg (by omega), if_pos h1]; exact ih'
        · rw [if_neg (by omega), if_pos h1, if_neg (by omega), h1]
          refine ⟨rfl, ?_⟩
          rcases hx.2.2.2.2.2 with h2 | h2
          · omega
          · exact (bytes_nil.2 h2).symm
      · rw [if_neg e, if_neg e]; exact ih'
  have := this acc.reverse (fun x hx => h x (List.mem_reverse.1 hx))
  rw [List.reverse_reverse] at this
  exact this
/-- A key's value hangs on its log alone. -/
theorem val_log (acc : List Cm) (k : ByteArray) : valOf acc k = valOf (logOf acc k) k := by
  have : ∀ r : List Cm, valOf r.reverse k = valOf (logOf r.reverse k) k := by
    intro r
    induction r with
    | nil => rfl
    | cons x r ih =>
      rw [List.reverse_cons, valOf_snoc, logOf_snoc]
      by_cases e : x.k = k
      · rw [if_pos e, valOf_snoc, ih]
      · rw [if_neg e, ← ih]
        unfold stepO
        rw [if_neg e]
  have := this acc.reverse
  rw [List.reverse_reverse] at this
  exact this
theorem log_app (a b : List Cm) (k : ByteArray) : logOf (a ++ b) k = logOf a k ++ logOf b k := List.filter_append ..
theorem log_log (acc : List Cm) (j k : ByteArray) : logOf (logOf acc j) k = if j = k then logOf acc k else [] := by
  unfold logOf
  rw [List.filter_filter]
  by_cases e : j = k
  · subst e
    rw [if_pos rfl]
    exact List.filter_congr fun x _ => by simp
  · rw [if_neg e]
    refine List.filter_eq_nil_iff.2 fun x _ h => ?_
    simp only [Bool.and_eq_true, decide_eq_true_eq] at h
    exact e (h.2.symm.trans h.1)
theorem repl_log {acc : List Cm} (hf : ∀ x ∈ acc, few x) (k : ByteArray) : logOf (replN acc 3) k = logOf acc k := by
  have h0 : replN acc 3 = (([] ++ logOf acc (kS 0)) ++ logOf acc (kS 1)) ++ logOf acc (kS 2) := rfl
  rw [h0, log_app, log_app, List.nil_append, log_log, log_log, log_log]
  by_cases e0 : kS 0 = k
  · rw [if_pos e0, if_neg, if_neg]
    · simp
    · intro e; exact absurd (kS_inj (by omega) (by omega) (e0.trans e.symm)) (by omega)
    · intro e; exact absurd (kS_inj (by omega) (by omega) (e0.trans e.symm)) (by omega)
  · rw [if_neg e0]
    by_cases e1 : kS 1 = k
    · rw [if_pos e1, if_neg]
      · simp
      · intro e; exact absurd (kS_inj (by omega) (by omega) (e1.trans e.symm)) (by omega)
    · rw [if_neg e1]
      by_cases e2 : kS 2 = k
      · rw [if_pos e2]; simp
      · rw [if_neg e2]
        have : logOf acc k = [] := by
          unfold logOf
          refine List.filter_eq_nil_iff.2 fun x hx h => ?_
          have h1 := of_decide_eq_true h
          have := (hf x hx).1
          unfold isKey at this
          rw [h1] at this
          rcases this with h | h | h
          · exact e0 h.symm
          · exact e1 h.symm
          · exact e2 h.symm
        rw [this]; rfl
theorem repl_val {acc : List Cm} (hf : ∀ x ∈ acc, few x) (k : ByteArray) : valOf (replN acc 3) k = valOf acc k := by rw [val_log, repl_log hf, ← val_log]
theorem repl_text {acc : List Cm} (hf : ∀ x ∈ acc, few x) : textOf (replN acc 3) = textOf acc := by
  have hk : keysOf (replN acc 3) = keysOf acc := by
    have hp : (keysOf (replN acc 3)).Perm (keysOf acc) := by
      refine (List.perm_ext_iff_of_nodup (keys_nodup _) (keys_nodup _)).2 fun kk => ?_
      constructor
      · intro h
        have := key_val h
        rw [repl_val hf] at this
        exact val_key this
      · intro h
        have := key_val h
        rw [← repl_val hf] at this
        exact val_key this
    unfold keysOf at hp ⊢
    exact mergeSort_of_perm ((List.mergeSort_perm _ _).symm.trans (hp.trans (List.mergeSort_perm _ _)))
  have h3 : pairT (replN acc 3) = pairT acc := by
    funext kk
    unfold pairT
    rw [repl_val hf]
  unfold textOf
  rw [hk, h3]
theorem filter3 {α : Type} (p q r : α → Bool) : ∀ l : List α, (∀ x ∈ l, (if p x then 1 else 0) + (if q x then 1 else 0) + (if r x then 1 else 0) = 1) → (l.filter p).length + (l.filter q).length + (l.filter r).length = l.length
  | [], _ => rfl
  | x :: l, h => by
    have h1 := h x List.mem_cons_self
    have h2 := filter3 p q r l fun y hy => h y (List.mem_cons_of_mem _ hy)
    simp only [List.filter_cons, List.length_cons]
    cases hp : p x <;> cases hq : q x <;> cases hr : r x <;> rw [hp, hq, hr] at h1 <;> simp at h1 ⊢ <;> omega
theorem repl_len {acc : List Cm} (hf : ∀ x ∈ acc, few x) : (replN acc 3).length = acc.length := by
  have h0 : replN acc 3 = (([] ++ logOf acc (kS 0)) ++ logOf acc (kS 1)) ++ logOf acc (kS 2) := rfl
  rw [h0, List.length_append, List.length_append, List.nil_append]
  unfold logOf
  refine filter3 _ _ _ acc fun x hx => ?_
  have := (hf x hx).1
  rcases this with h | h | h <;> rw [h] <;> rfl

end Go.Proofs.Ytfcaneofkdaicaa
