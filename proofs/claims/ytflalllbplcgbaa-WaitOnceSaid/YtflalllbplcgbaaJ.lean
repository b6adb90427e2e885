/-
  Chapter 18: the library's stable sort of at most 20 waits, by their times.
-/
import Derived.Test.YtflalllbplcgbaaI
namespace Go.Proofs.Ytflalllbplcgbaa
open Go.RowKit Go.Sort Go.Maps Go.Shelf

theorem insInner_size' {α : Type} [Inhabited α] (lt : α → α → Bool) (a : Nat) : ∀ (j : Nat) (d : Array α), (insInner lt a j d).size = d.size
  | 0, d => rfl
  | j + 1, d => by
    rw [insInner]
    split
    · rw [insInner_size' lt a j]; simp [swp]
    · rfl
theorem insOuter_size' {α : Type} [Inhabited α] (lt : α → α → Bool) (a b : Nat) : ∀ (n i : Nat) (d : Array α), b - i = n → (insOuter lt a b i d).size = d.size
  | 0, i, d, h => by rw [insOuter_stop _ _ _ _ _ (by omega)]
  | n + 1, i, d, h => by rw [insOuter_go _ _ _ _ _ (by omega), insOuter_size' lt a b n (i + 1) _ (by omega), insInner_size']
theorem insertionSort_size {α : Type} [Inhabited α] (lt : α → α → Bool) (d : Array α) (a b : Nat) : (insertionSort lt d a b).size = d.size := insOuter_size' lt a b _ _ d rfl
theorem ins_end {α : Type} [Inhabited α] (lt : α → α → Bool) (d : Array α) (n : Nat) : insertionSort lt d n n = d := by
  unfold insertionSort
  exact insOuter_stop _ _ _ _ _ (by omega)

/-- Sorted by their times, of the same as they stood. -/
def byAt (l : List It) : List It := (insertionSort (ltOf atZ) l.toArray 0 l.length).toList
theorem byAt_len (l : List It) : (byAt l).length = l.length := by unfold byAt; simp [insertionSort_size]

abbrev atFn : Value := .func (.func 31) #[] #[]

theorem insA_any (base g cap a b : Nat) (l : List It) (w : World) (h : w.ownsRow base 47 4 (.slice (some ⟨g, 0, none⟩) l.length cap) l.length (cellsL It.cells l)) (hab : a ≤ b) (hb : b ≤ l.length) (hl : l.length ≤ 1000) :
    Calls Try.prog 45 #[.slice (some ⟨g, 0, none⟩) l.length cap, .int .i64 a, .int .i64 b, atFn] w fun e w' => e = .returned (.tuple #[]) ∧
      w'.ownsRow base 47 4 (.slice (some ⟨g, 0, none⟩) l.length cap) l.length (cellsL It.cells (insertionSort (ltOf atZ) l.toArray a b).toList) ∧ w.grownBy w' (some g) := by
  have hlt := (h.lt g rfl).2
  have hs : l.toArray.size = l.length := by simp
  have h1 := AnyQ.insertionSortCmpFunc lay_insW 4 Try.isAgg47 Try.sizeOf47 It.cells It.len It.one atZ 31 #[] g 0 cap a b l.toArray w byAt_enters (byAt_lays g _ w) (holdsK_own It.len h) hlt hab (by rw [hs]; exact hb) (by rw [hs]; omega)
  rw [hs] at h1
  refine h1.mono ?_
  rintro e w' ⟨he, n, os, rfl⟩
  have hd : (insertionSort (ltOf atZ) l.toArray a b).toList.length = l.length := by simp [insertionSort_size]
  refine ⟨he, ?_, sortWorldK_grown hlt _ _ _⟩
  have h3 := own_sorted It.len h (l' := (insertionSort (ltOf atZ) l.toArray a b).toList) hd n os
  rwa [Array.toArray_toList, hd] at h3

set_option maxHeartbeats 1000000 in
theorem stableA_any (base g cap : Nat) (l : List It) (w : World) (h : w.ownsRow base 47 4 (.slice (some ⟨g, 0, none⟩) l.length cap) l.length (cellsL It.cells l)) (hl : l.length ≤ 20) :
    Calls Try.prog 40 #[.slice (some ⟨g, 0, none⟩) l.length cap, .int .i64 l.length, atFn] w fun e w' => e = .returned (.tuple #[]) ∧
      w'.ownsRow base 47 4 (.slice (some ⟨g, 0, none⟩) l.length cap) l.length (cellsL It.cells (byAt l)) ∧ w.grownBy w' (some g) := by
  obtain ⟨r, hr⟩ : ∃ r, byAt l = r := ⟨_, rfl⟩
  have hrl : r.length = l.length := by rw [← hr, byAt_len]
  rw [hr]
  obtain ⟨N, hN⟩ : ∃ N, l.length = N := ⟨_, rfl⟩
  rcases Nat.lt_or_ge N 20 with hlt | hge
  · have c1 := insA_any base g cap 0 N l w h (by omega) (by omega) (by omega)
    rw [← hN, show (insertionSort (ltOf atZ) l.toArray 0 l.length).toList = r from hr, hN] at c1
    rw [hN]
    have C1 := hide c1
    have k1 : ¬ (20 : Int) ≤ N := by omega
    have k2 : ¬ (20 : Int) < N := by omega
    clear c1 hr h hrl hN
    go_enter Try.func40, Try.ntmps40
    go_wp2_with fail
    refine wp_loop_rounds 1 ?_
    rw [rounds_succ]
    go_wp2_with fail
    refine C1.out.mono ?_
    rintro e w' ⟨rfl, h1, h2⟩
    have H1 := hide h1
    have H2 := hide h2
    clear h1 h2
    go_wp2_with fail
    refine wp_loop_rounds 1 ?_
    rw [rounds_succ]
    go_wp2_with fail
    go_end0
    exact ⟨rfl, H1.out, H2.out⟩
  · obtain rfl : N = 20 := by omega
    have c1 := insA_any base g cap 0 20 l w h (by omega) (by omega) (by omega)
    rw [← hN, show (insertionSort (ltOf atZ) l.toArray 0 l.length).toList = r from hr, hN] at c1
    have c2 : ∀ W : World, W.ownsRow base 47 4 (.slice (some ⟨g, 0, none⟩) 20 cap) 20 (cellsL It.cells r) → Calls Try.prog 45 #[.slice (some ⟨g, 0, none⟩) 20 cap, .int .i64 20, .int .i64 20, atFn] W
        fun e w' => e = .returned (.tuple #[]) ∧ w'.ownsRow base 47 4 (.slice (some ⟨g, 0, none⟩) 20 cap) 20 (cellsL It.cells r) ∧ W.grownBy w' (some g) := fun W hW => by
      have h20 : r.length = 20 := by omega
      have := insA_any base g cap 20 20 r W (by rw [h20]; exact hW) (by omega) (by omega) (by omega)
      rw [ins_end, List.toList_toArray, h20] at this
      exact this
    rw [hN]
    have C1 := hide c1
    have C2 := hide c2
    clear c1 c2 hr h hrl hN
    go_enter Try.func40, Try.ntmps40
    go_wp2_with fail
    refine wp_loop_rounds 2 ?_
    rw [rounds_succ]
    go_wp2_with fail
    refine C1.out.mono ?_
    rintro e w' ⟨rfl, h1, h2⟩
    have H1 := hide h1
    have H2 := hide h2
    clear h1 h2
    go_wp2_with fail
    rw [rounds_succ]
    go_wp2_with fail
    refine (C2.out _ H1.out).mono ?_
    rintro e w'' ⟨rfl, h3, h4⟩
    have H3 := hide h3
    have H4 := hide h4
    clear h3 h4
    go_wp2_with fail
    refine wp_loop_rounds 1 ?_
    rw [rounds_succ]
    go_wp2_with fail
    go_end0
    exact ⟨rfl, H3.out, only_trans H2.out H4.out⟩

set_option maxHeartbeats 400000 in
theorem insA_none (fv : Value) (w : World) : Calls Try.prog 45 #[.slice none 0 0, .int .i64 0, .int .i64 0, fv] w fun e w' => e = .returned (.tuple #[]) ∧ w = w' := by
  go_enter Try.func45, Try.ntmps45
  go_wp2_with fail
  refine wp_loop_rounds 1 ?_
  rw [rounds_succ]
  go_wp2_with fail
  go_end0
  exact ⟨rfl, rfl⟩
set_option maxHeartbeats 400000 in
theorem stableA_none (fv : Value) (w : World) : Calls Try.prog 40 #[.slice none 0 0, .int .i64 0, fv] w fun e w' => e = .returned (.tuple #[]) ∧ w = w' := by
  go_enter Try.func40, Try.ntmps40
  go_wp2_with fail
  refine wp_loop_rounds 1 ?_
  rw [rounds_succ]
  go_wp2_with fail
  refine (insA_none _ _).mono ?_
  rintro e w' ⟨rfl, rfl⟩
  go_wp2_with fail
  refine wp_loop_rounds 1 ?_
  rw [rounds_succ]
  go_wp2_with fail
  go_end0
  exact ⟨rfl, rfl⟩

set_option maxHeartbeats 400000 in
theorem sortStable_any (base : Nat) (v : Value) (l : List It) (w : World) (h : w.ownsRow base 47 4 v l.length (cellsL It.cells l)) (hl : l.length ≤ 20) :
    Calls Try.prog 30 #[v, atFn] w fun e w' => e = .returned (.tuple #[]) ∧
      w'.ownsRow base 47 4 v l.length (cellsL It.cells (byAt l)) ∧ w.grownBy w' v.ownBlock := by
  rcases h.2 with ⟨rfl, hz⟩ | ⟨g, cap, cur, rfl, _⟩
  · obtain rfl : l = [] := List.eq_nil_of_length_eq_zero hz
    have H := hide h
    clear h
    go_enter Try.func30, Try.ntmps30
    go_wp2_with fail
    refine (stableA_none _ _).mono ?_
    rintro e w' ⟨rfl, rfl⟩
    go_wp2_with fail
    go_end0
    exact ⟨rfl, by rw [show byAt [] = [] from ins_end (ltOf atZ) #[] 0 |> congrArg Array.toList]; exact H.out, World.grownBy.refl _ _⟩
  · have c1 := stableA_any base g cap l w h hl
    have C1 := hide c1
    generalize l.length = N at C1 hl ⊢
    clear c1 h
    go_enter Try.func30, Try.ntmps30
    go_wp2_with fail
    refine C1.out.mono ?_
    rintro e w' ⟨rfl, h1, h2⟩
    have H1 := hide h1
    have H2 := hide h2
    clear h1 h2
    go_wp2_with fail
    go_end0
    exact ⟨rfl, H1.out, H2.out⟩

end Go.Proofs.Ytflalllbplcgbaa
