/-
  Rows of elements of k cells: read, cut, sorted. It holds of every program.
-/
import Derived.Test.YtfcaneofkdaicaaK
import Derived.Shelf.GgSortFunc.InsertionK
namespace Go.Proofs.Ytfcaneofkdaicaa
open Go.RowKit Go.Sort

section
variable {α : Type} (enc : α → List Value) (k : Nat)

/-- The cells of a list of elements. -/
def cellsL (l : List α) : List Value := l.flatMap enc
theorem cellsL_append (l m : List α) : cellsL enc (l ++ m) = cellsL enc l ++ cellsL enc m := List.flatMap_append
theorem cellsL_cons (x : α) (l : List α) : cellsL enc (x :: l) = enc x ++ cellsL enc l := List.flatMap_cons
theorem cellsL_one (x : α) : cellsL enc [x] = enc x := by simp [cellsL]
theorem cellsL_snoc (l : List α) (x : α) : cellsL enc (l ++ [x]) = cellsL enc l ++ enc x := by rw [cellsL_append, cellsL_one]
theorem cellsL_oneCell (h1 : ∀ x, ∀ v ∈ enc x, v.oneCell' = true) (l : List α) : ∀ u ∈ cellsL enc l, u.oneCell' = true := by
  intro u hu
  obtain ⟨x, _, hx⟩ := List.mem_flatMap.1 hu
  exact h1 x u hx
variable {k}
theorem cellsL_len (hk : ∀ x, (enc x).length = k) (l : List α) : (cellsL enc l).length = l.length * k := by
  induction l with
  | nil => simp [cellsL]
  | cons x l ih => rw [cellsL_cons, List.length_append, ih, hk, List.length_cons, Nat.add_mul, Nat.one_mul, Nat.add_comm]
theorem cellsL_take (hk : ∀ x, (enc x).length = k) (l : List α) (n : Nat) (hn : n ≤ l.length) : (cellsL enc l).take (n * k) = cellsL enc (l.take n) := by
  have h : cellsL enc l = cellsL enc (l.take n) ++ cellsL enc (l.drop n) := by rw [← cellsL_append, List.take_append_drop]
  have e : (cellsL enc (l.take n)).length = n * k := by rw [cellsL_len enc hk, List.length_take, Nat.min_eq_left hn]
  rw [h, List.take_append_of_le_length (Nat.le_of_eq e.symm), List.take_of_length_le (Nat.le_of_eq e)]
theorem cellsL_drop (hk : ∀ x, (enc x).length = k) (l : List α) (n : Nat) (hn : n ≤ l.length) : (cellsL enc l).drop (n * k) = cellsL enc (l.drop n) := by
  have h : cellsL enc l = cellsL enc (l.take n) ++ cellsL enc (l.drop n) := by rw [← cellsL_append, List.take_append_drop]
  have e : (cellsL enc (l.take n)).length = n * k := by rw [cellsL_len enc hk, List.length_take, Nat.min_eq_left hn]
  rw [h, List.drop_append_of_le_length (Nat.le_of_eq e.symm), List.drop_of_length_le (Nat.le_of_eq e), List.nil_append]
theorem cellsL_at (hk : ∀ x, (enc x).length = k) {l : List α} {i j : Nat} {x : α} (hi : l[i]? = some x) (hj : j < k) : (cellsL enc l)[i * k + j]? = (enc x)[j]? := by
  have hl : i < l.length := (List.getElem?_eq_some_iff.1 hi).1
  have h : cellsL enc l = cellsL enc (l.take i) ++ cellsL enc (l.drop i) := by rw [← cellsL_append, List.take_append_drop]
  have e : (cellsL enc (l.take i)).length = i * k := by rw [cellsL_len enc hk, List.length_take, Nat.min_eq_left (Nat.le_of_lt hl)]
  have hd : l.drop i = x :: l.drop (i + 1) := by
    rw [List.drop_eq_getElem_cons hl]
    congr 1
    rw [List.getElem?_eq_getElem hl] at hi
    exact Option.some.inj hi
  rw [h, List.getElem?_append_right (by omega), e, hd, cellsL_cons, List.getElem?_append_left (by rw [hk]; omega)]
  congr 1
  omega

theorem flatK_list [Inhabited α] (hk : ∀ x, (enc x).length = k) (l : List α) : (flatK enc k l.toArray).toList = cellsL enc l := by
  apply List.ext_getElem?
  intro t
  by_cases ht : t < l.length * k
  · have k0 : 0 < k := by
      rcases Nat.eq_zero_or_pos k with h | h
      · subst h; simp at ht
      · exact h
    have hi : t / k < l.length := by
      rw [Nat.div_lt_iff_lt_mul k0]; exact ht
    have hm : t % k < k := Nat.mod_lt _ k0
    have e : t / k * k + t % k = t := by rw [Nat.mul_comm]; exact Nat.div_add_mod t k
    have h2 := cellsL_at enc hk (List.getElem?_eq_getElem hi) hm
    rw [e] at h2
    rw [h2]
    have hs : t < (flatK enc k l.toArray).size := by simpa using ht
    have h3 := get_flatK enc k l.toArray t (by simpa using ht)
    rw [getElem!_pos _ t hs] at h3
    rw [Array.getElem?_toList, Array.getElem?_eq_getElem hs, h3]
    rw [getElem!_pos l.toArray (t / k) (by simpa using hi)]
    rw [List.getElem?_eq_getElem (by rw [hk]; exact hm), List.getElem_toArray]
    rw [getElem!_pos _ (t % k) (by rw [hk]; exact hm)]
  · rw [List.getElem?_eq_none (by rw [Array.length_toList, size_flatK]; simp; omega), List.getElem?_eq_none (by rw [cellsL_len enc hk]; omega)]
end

section
variable {α : Type} [Inhabited α] {enc : α → List Value} {k : Nat} {w w' : World} {base : Nat} {E : TypeId} {g cap : Nat} {l l' : List α}

theorem heap_putRowK (i : Nat) (d : Array α) (blk off : Nat) (h : i ≠ blk) : (putRowK enc k w blk off d).heap[i]? = w.heap[i]? := by
  simp [putRowK, putRow, mapBlock, Array.getElem?_modify, Ne.symm h]
theorem size_putRowK' (d : Array α) (blk off : Nat) : (putRowK enc k w blk off d).heap.size = w.heap.size := by simp [putRowK, putRow, mapBlock]

theorem sortWorldK_size (q : Nat) (d : Array α) (os : Array Obj) : w.heap.size ≤ (sortWorldK enc k w g 0 q d os).heap.size := by
  unfold sortWorldK
  rw [size_grow, size_putRowK']
  exact Nat.le_add_right _ _
theorem sortWorldK_grown (hg : g < w.heap.size) (q : Nat) (d : Array α) (os : Array Obj) : w.grownBy (sortWorldK enc k w g 0 q d os) (some g) := by
  refine ⟨rfl, rfl, rfl, sortWorldK_size q d os, fun i hi hne => ?_⟩
  unfold sortWorldK
  rw [heap_grow_old _ _ (by rw [size_putRowK']; exact hi), heap_putRowK _ _ _ _ (fun e => hne (by rw [e]))]
  rfl

theorem holdsK_own (hk : ∀ x, (enc x).length = k) (h : w.ownsRow base E k (.slice (some ⟨g, 0, none⟩) l.length cap) l.length (cellsL enc l)) : HoldsK enc k w g 0 l.toArray := by
  rcases h.2 with ⟨h0, _⟩ | ⟨g', cap', cur, hv, _, hh, _, _, _, ht⟩
  · cases h0
  · simp only [Value.slice.injEq, Option.some.injEq, Addr.mk.injEq, and_true, true_and] at hv
    obtain ⟨rfl, rfl⟩ := hv
    intro j hj
    have hs : j < l.length * k := by simpa using hj
    have hblk : Blk w g E cur := hh
    refine ⟨?_, hblk.frozen _⟩
    rw [Nat.zero_add, hblk.cell j]
    have e1 : (cur.toList.take (l.length * k))[j]? = (cellsL enc l)[j]? := by rw [ht]
    rw [List.getElem?_take, if_pos hs, ← flatK_list enc hk, Array.getElem?_toList, Array.getElem?_toList, Array.getElem?_eq_getElem hj] at e1
    rw [e1, getElem!_pos _ j hj]
    rfl

theorem own_sorted (hk : ∀ x, (enc x).length = k) (h : w.ownsRow base E k (.slice (some ⟨g, 0, none⟩) l.length cap) l.length (cellsL enc l)) (hl : l'.length = l.length) (q : Nat) (os : Array Obj) :
    (sortWorldK enc k w g 0 q l'.toArray os).ownsRow base E k (.slice (some ⟨g, 0, none⟩) l'.length cap) l'.length (cellsL enc l') := by
  have hlt := (h.lt g rfl).2
  rcases h.2 with ⟨h0, _⟩ | ⟨g', cap', cur, hv, hb, hh, hc, hm, hsz, ht⟩
  · cases h0
  · simp only [Value.slice.injEq, Option.some.injEq, Addr.mk.injEq, and_true, true_and] at hv
    obtain ⟨rfl, rfl⟩ := hv
    refine ⟨cellsL_len enc hk l', .inr ⟨g, cap, putCells id 0 (flatK enc k l'.toArray) cur, rfl, hb, ?_, by omega, hm, by simpa [putCells] using hsz, ?_⟩⟩
    · unfold sortWorldK
      rw [heap_grow_old _ _ (by rw [size_putRowK']; exact hlt)]
      have hh' : (Sort.ahead w q).heap[g]? = some (Obj.cells cur E (0, 0)) := hh
      unfold putRowK putRow mapBlock
      simp only [Array.getElem?_modify, hh', if_true, Option.map_some]
      rfl
    · rw [← flatK_list enc hk l', hl]
      have hle : l.length * k ≤ cur.size := by rw [hsz]; exact Nat.mul_le_mul_right _ hc
      apply List.ext_getElem?
      intro t
      rw [List.getElem?_take, Array.getElem?_toList, Array.getElem?_toList]
      by_cases h1 : t < l.length * k
      · have hs : t < (flatK enc k l'.toArray).size := by rw [size_flatK]; simp [hl, h1]
        have hd : (flatK enc k l'.toArray).size = l.length * k := by rw [size_flatK]; simp [hl]
        rw [if_pos h1]
        simp only [putCells, Array.getElem?_mapIdx, Array.getElem?_eq_getElem (show t < cur.size by omega), Option.map_some, Array.getElem?_eq_getElem hs]
        rw [if_pos ⟨by omega, by omega⟩, Nat.sub_zero, getElem!_pos _ t hs]
        rfl
      · rw [if_neg h1]
        have hs : ¬ t < (flatK enc k l'.toArray).size := by rw [size_flatK]; simp [hl]; omega
        rw [Array.getElem?_eq_none (by omega)]

theorem setMany_set (hk : ∀ x, (enc x).length = k) (M : List α) (i : Nat) (x : α) (hi : i < M.length) : setMany (flatK enc k M.toArray) (i * k) (enc x) = flatK enc k (M.set i x).toArray := by
  refine ext_get! (by simp) fun t ht => ?_
  have ht' : t < M.length * k := by simpa using ht
  have k0 : 0 < k := by
    rcases Nat.eq_zero_or_pos k with h | h
    · subst h; simp at ht'
    · exact h
  rw [get_setMany _ _ _ t (by simpa using ht'), get_flatK _ _ _ t (by simpa using ht'), get_flatK _ _ _ t (by simpa using ht'), hk]
  have hd : t / k < M.length := by rw [Nat.div_lt_iff_lt_mul k0]; exact ht'
  by_cases a : t / k = i
  · rw [if_pos ((blk_iff k i t k0).2 a)]
    have e1 : t - i * k = t % k := by subst a; rw [Nat.mod_eq_sub_div_mul]
    rw [e1, getElem!_pos (M.set i x).toArray (t / k) (by simpa using hd)]
    simp [a]
  · rw [if_neg (fun h => a ((blk_iff k i t k0).1 h)), getElem!_pos (M.set i x).toArray (t / k) (by simpa using hd), getElem!_pos M.toArray (t / k) (by simpa using hd)]
    simp [List.getElem_set, Ne.symm a]

theorem own_store (hk : ∀ x, (enc x).length = k) (h : w.ownsRow base E k (.slice (some ⟨g, 0, none⟩) l.length cap) l.length (cellsL enc l)) (i : Nat) (x : α) (hi : i < l.length) :
    (w.setCells g (i * k) (enc x)).ownsRow base E k (.slice (some ⟨g, 0, none⟩) l.length cap) l.length (cellsL enc (l.set i x)) := by
  have hb : i * k + (enc x).length ≤ (flatK enc k l.toArray).size := by
    rw [hk, size_flatK]
    have := Nat.mul_le_mul_right k (show i + 1 ≤ l.length from hi)
    rw [Nat.add_mul, Nat.one_mul] at this
    simpa using this
  have e : w.setCells g (i * k) (enc x) = sortWorldK enc k w g 0 0 (l.set i x).toArray #[] := by
    have h1 := setCells_putRow w g 0 (enc x) (i * k) (flatK enc k l.toArray) hb
    rw [show putRow id w g 0 (flatK enc k l.toArray) = w from putRowK_self enc k w g 0 l.toArray (holdsK_own hk h), setMany_set hk l i x hi, Nat.zero_add] at h1
    rw [h1]
    unfold sortWorldK
    rw [grow_empty]
    rfl
  rw [e]
  have := own_sorted hk h (l' := l.set i x) (by simp) 0 #[]
  rw [List.length_set] at this
  exact this
end

end Go.Proofs.Ytfcaneofkdaicaa
