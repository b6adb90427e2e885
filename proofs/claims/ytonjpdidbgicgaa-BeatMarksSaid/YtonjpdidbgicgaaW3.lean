/-
  Chapter 19: the marks as a slice of their own, of the program and of the document's answer, walked through their text.
-/
import Derived.Test.YtonjpdidbgicgaaW2
namespace Go.Proofs.Ytonjpdidbgicgaa
open Go.RowKit

theorem int_info : (Try.prog.info? 3).map (fun i => (i.zero, i.size, i.bytes)) = some (some (.int .i64 0), 1, 8) := by kernel_rfl


set_option maxHeartbeats 400000 in
theorem clone_any (ad : Addr) (n c : Nat) (xs : List Value) (w : World) (hr : Reads w w.heap.size 1 (some ad) n xs) (h1 : ∀ u ∈ xs, u.oneCell' = true) (hn : n ≤ 65536) :
    Calls Try.prog 24 #[.slice (some ad) n c] w fun e w' => ∃ v, e = .returned v ∧ w'.ownsRow w.heap.size 3 1 v n xs ∧ Below w.heap.size w w' := by
  obtain ⟨i0, hi0, hz0, hz1, hz2⟩ := info_parts int_info
  have hnil := fun (w : World) => Lib.run_eql_slice_nil (P := Try.prog) w 32 3 (some ad) n c 0 0 Try.underlying32
  have hr1 := hr.alloc (Nat.le_refl _) (.cells #[] 3)
  go_enter Try.func24, Try.ntmps24
  go_wp2_with (at_builtin; refine wpList_append_any _ rfl (.tmp 5) (.tmp 6) _ rfl w.heap.size 3 i0 _ 1 8 Try.underlying32 hi0 hz0 hz1 hz2 rfl (by omega) (.slice (some ⟨w.heap.size, 0, none⟩) 0 0) 0 [] rfl (World.ownsRow_lit w #[] 0 (Nat.le_refl _) (by simp [maxLen]) rfl) w.heap.size _ n c xs rfl hr1 h1 (by simp only [maxLen]; omega) (by omega) (by simp) ?_; intro v w1 hown hgr _)
  go_ret
  simp only [Nat.zero_add, List.nil_append] at hown
  exact ⟨v, rfl, hown, ((Below.refl _ _).alloc (Nat.le_refl _) _).grown hgr (by simp) (by simp [Value.ownBlock])⟩

/-- The marks as a list. -/
def BSt.marks (s : BSt) : List Int := (List.range s.n.toNat).map fun k => s.mrk (k + 1)

theorem one_ints (l : List Int) : ∀ u ∈ l.map (Value.int .i64), u.oneCell' = true := ints_oneCell .i64 l

theorem IsBeat.reads {w : World} {b : Nat} {s : BSt} (h : IsBeat w b s) (h1 : 1 ≤ s.n) (h7 : s.n ≤ 7) : Reads w w.heap.size 1 (some ⟨b, 20, none⟩) s.n.toNat (s.marks.map (.int .i64)) := by
  refine ⟨by simp [BSt.marks], fun _ => ⟨_, rfl, h.lt, fun j u hu => ?_⟩⟩
  simp only [BSt.marks, List.map_map, List.getElem?_map, Option.map_eq_some_iff, List.getElem?_eq_some_iff, List.length_range, List.getElem_range, Function.comp] at hu
  obtain ⟨k, ⟨hk, rfl⟩, rfl⟩ := hu
  have := h.mk (j + 1) (by omega)
  have e : (⟨b, 20, none⟩ : Addr).add j = ⟨b, 19 + (j + 1), none⟩ := by unfold Addr.add; split <;> simp <;> omega
  rw [e]
  exact this

set_option maxHeartbeats 400000 in
theorem marks_any (b : Nat) (s : BSt) (w : World) (h : IsBeat w b s) (ho : s.Ok) :
    Calls Try.prog 18 #[.pointer (some ⟨b, 0, none⟩)] w fun e w' => ∃ v, e = .returned v ∧ w'.ownsRow w.heap.size 3 1 v s.n.toNat (s.marks.map (.int .i64)) ∧ Below w.heap.size w w' := by
  have h0 := h.c0
  have h1 := ho.n1
  have h7 := ho.n7
  have hr := hide (h.reads h1 h7)
  have z0 : IntKind.i64.wrap (s.n + 1) = s.n + 1 := IntWalk.i64_in _ (by omega)
  have z1 : 1 ≤ s.n + 1 := by omega
  have z2 : s.n + 1 ≤ 8 := by omega
  have z3 : (s.n + 1).toNat = s.n.toNat + 1 := by omega
  clear h ho
  go_enter Try.func18, Try.ntmps18
  go_wp2
  refine wp_region_tail 9 mixed (by kernel_rfl) ?_
  simp only [List.take_succ_cons, List.take_zero, List.drop_succ_cons, List.drop_zero]
  repeat still_step
  refine wpStill_nil ?_
  go_wp2_with (go_at_call 24; refine (clone_any ⟨b, 20, none⟩ s.n.toNat _ _ _ hr.out.drew (one_ints _) (by omega)).mono ?_; rintro e w1 ⟨v, rfl, hown, hb⟩)
  go_ret
  exact ⟨v, rfl, hown, below_undrew hb⟩

theorem marks_take (s : BSt) (k : Nat) (hk : k < s.n.toNat) : s.marks.take (k + 1) = s.marks.take k ++ [s.mrk (k + 1)] := by
  rw [List.take_succ_eq_append_getElem (by simpa [BSt.marks] using hk)]
  simp [BSt.marks]

set_option maxHeartbeats 800000 in
theorem rmarks_any (b : Nat) (s : BSt) (w : World) (h : IsRef w b s) (ho : s.Ok) :
    Calls Try.prog 19 #[.pointer (some ⟨b, 0, none⟩)] w fun e w' => ∃ v, e = .returned v ∧ w'.ownsRow w.heap.size 3 1 v s.n.toNat (s.marks.map (.int .i64)) ∧ Below w.heap.size w w' := by
  obtain ⟨i0, hi0, hz0, hz1, hz2⟩ := info_parts int_info
  have h1 := ho.n1
  have h7 := ho.n7
  have H := hide h
  have h0 := h.c0
  have hlt := h.lt
  clear h ho
  go_enter Try.func19, Try.ntmps19
  go_wp2
  go_loopg [3, 4] (s.n.toNat + 1) (fun m v i wr => ∃ k : Nat, i = .int .i64 ((k : Int) + 1) ∧ k ≤ s.n.toNat ∧ m = s.n.toNat + 1 - k ∧ wr.ownsRow w.heap.size 3 1 v k ((s.marks.take k).map (.int .i64)) ∧ Below w.heap.size w wr)
  case atStart => exact ⟨0, rfl, by omega, by omega, World.ownsRow_nil _ _ _ _, Below.refl _ _⟩
  case round =>
    obtain ⟨k, rfl, hk, rfl, hown, hb⟩ := hrel
    have c0 := (hb.cell (p := ⟨b, 0, none⟩) hlt).trans h0
    by_cases hlt2 : k < s.n.toNat
    · have c1 := (hb.cell (p := ⟨b, 19 + (k + 1), none⟩) hlt).trans (H.out.mk (k + 1) (by omega))
      have z1 : ((k : Int) + 1).toNat = k + 1 := by omega
      have z2 : (k : Int) + 1 ≤ s.n := by omega
      have z3 : (k : Int) + 1 < 8 := by omega
      go_wp2_with (at_builtin; refine wpList_append_own _ rfl (.tmp 13) (.tmp 20) _ rfl w.heap.size 3 i0 _ 1 8 Try.underlying32 hi0 hz0 hz1 hz2 rfl (by omega) u3 k ((s.marks.take k).map (.int .i64)) rfl (hown.alloc _) ⟨wr.heap.size, 0, none⟩ 1 1 [.int .i64 (s.mrk (k + 1))] rfl rfl (cell_one_new _ _ _) (one_ints [s.mrk (k + 1)]) (by simp only [maxLen]; omega) (by omega) (by have := hb.size; simp; omega) ?_; intro v1 w1 hown1 hgr _)
      have hb1 : Below w.heap.size w w1 := (hb.alloc hb.size _).grown hgr (by have := hb.size; simp; omega) (fun g hg => (hown.lt g hg).1)
      have hown2 : w1.ownsRow w.heap.size 3 1 v1 (k + 1) ((s.marks.take (k + 1)).map (.int .i64)) := by
        rw [marks_take s k hlt2, List.map_append]; exact hown1
      clear hown1
      go_roundg (s.n.toNat + 1 - (k + 1))
      case measure => omega
      case rel => exact ⟨k + 1, by go_num, by omega, rfl, hown2, hb1⟩
    · have z2 : s.n < (k : Int) + 1 := by omega
      go_wp2_with fail
      go_ret
      obtain rfl : k = s.n.toNat := by omega
      rw [List.take_of_length_le (by simp [BSt.marks])] at hown
      exact ⟨_, rfl, hown, hb⟩

end Go.Proofs.Ytonjpdidbgicgaa
