/-
  Chapter 19: the chapter's examples, walked: they are so.
-/
import Derived.Test.YtonjpdidbgicgaaW6
namespace Go.Proofs.Ytonjpdidbgicgaa
open Go.RowKit

/-- A struct of the call's own: what was there when the call began stands. -/
structure Own (w0 w : World) (b : Nat) (s : BSt) : Prop where
  bel : Below w0.heap.size w0 w
  bt : IsBeat w b s
  ok : s.Ok
  ge : w0.heap.size ≤ b

theorem Own.drewN {w0 w : World} {b : Nat} {s : BSt} (h : Own w0 w b s) (n : Nat) : Own w0 (w.drewN n) b s := ⟨below_drewN h.bel n, rowIs_drewN h.bt n, h.ok, h.ge⟩
theorem Own.alloc {w0 w : World} {b : Nat} {s : BSt} (h : Own w0 w b s) (o : Obj) : Own w0 (w.alloc o) b s := ⟨h.bel.alloc h.bel.size o, h.bt.alloc o, h.ok, h.ge⟩
theorem Own.below {w0 w w' : World} {b : Nat} {s : BSt} (h : Own w0 w b s) (hb : Below w.heap.size w w') : Own w0 w' b s :=
  ⟨h.bel.trans (hb.mono h.bel.size), h.bt.keep (below_grown_none hb) (by simp), h.ok, h.ge⟩
theorem Own.only {w0 w w' : World} {b : Nat} {s s' : BSt} (h : Own w0 w b s) (hg : w.grownBy w' (some b)) (hb : IsBeat w' b s') (ho : s'.Ok) : Own w0 w' b s' :=
  ⟨below_only h.bel hg h.bel.size h.ge, hb, ho, h.ge⟩

theorem own_new (n me p : Int) (w0 w : World) (h : mayB n me p = true) (hb : Below w0.heap.size w0 w) :
    Calls Try.prog 9 #[.int .i64 n, .int .i64 me, .int .u64 p] w fun e w' => ∃ b, e = .returned (.tuple #[.pointer (some ⟨b, 0, none⟩), .int .i64 0]) ∧ Own w0 w' b (BSt.init n me p) :=
  (new_ok n me p w h).mono fun _ _ ⟨he, hi, hg, _⟩ => ⟨_, he, hb.trans ((grown_none_below hg).mono hb.size), hi, BSt.Ok.init h, hb.size⟩

theorem own_heard (w0 w : World) (b : Nat) (s : BSt) (who now : Int) (r : Bool) (h : Own w0 w b s) (hr : heardB s who = r) (h0 : 0 ≤ now) (h1 : now ≤ 18446744073709551615) :
    Calls Try.prog 11 #[.pointer (some ⟨b, 0, none⟩), .int .i64 who, .int .u64 now] w fun e w' => e = .returned (.bool r) ∧ Own w0 w' b (heardS s who now) :=
  (heard_any b s who now w h.bt h.ok.n7).mono fun _ _ ⟨he, hb, hg, _⟩ => ⟨by rw [he, hr], h.only hg hb (h.ok.heard h0 h1)⟩

theorem own_mark (w0 w : World) (b : Nat) (s : BSt) (o n : Int) (r : Bool) (h : Own w0 w b s) (hr : markB s o n = r) :
    Calls Try.prog 13 #[.pointer (some ⟨b, 0, none⟩), .int .i64 o, .int .i64 n] w fun e w' => e = .returned (.bool r) ∧ Own w0 w' b (markS s o n) :=
  (mark_any b s o n w h.bt h.ok.n7).mono fun _ _ ⟨he, hb, hg, _⟩ => ⟨by rw [he, hr], h.only hg hb (h.ok.mark o n)⟩

theorem own_alive (w0 w : World) (b : Nat) (s : BSt) (who now : Int) (r : Bool) (h : Own w0 w b s) (hr : aliveB s who now = r) (h0 : 0 ≤ now) (h1 : now ≤ 18446744073709551615) :
    Calls Try.prog 20 #[.pointer (some ⟨b, 0, none⟩), .int .i64 who, .int .u64 now] w fun e w' => e = .returned (.bool r) ∧ Own w0 w' b s ∧ ∃ n, w' = w.drewN n :=
  (alive_any b s who now w h.bt h.ok h0 h1).mono fun _ _ ⟨he, n, hw⟩ => ⟨by rw [he, hr], by rw [hw]; exact h.drewN n, n, hw⟩

theorem own_marks (w0 w : World) (b : Nat) (s : BSt) (h : Own w0 w b s) :
    Calls Try.prog 18 #[.pointer (some ⟨b, 0, none⟩)] w fun e w' => ∃ g cap, e = .returned (.slice (some ⟨g, 0, none⟩) s.n.toNat cap) ∧ w.heap.size ≤ g ∧
      w'.ownsRow w.heap.size 3 1 (.slice (some ⟨g, 0, none⟩) s.n.toNat cap) s.n.toNat (ints s.marks) ∧ Below w.heap.size w w' ∧ Own w0 w' b s :=
  (marks_any b s w h.bt h.ok).mono fun _ _ ⟨v, he, hown, hb⟩ => by
    obtain ⟨g, cap, rfl, hg, _⟩ := hown.form (by have := h.ok.n1; omega)
    exact ⟨g, cap, he, hg, hown, hb, h.below hb⟩

theorem own_take (w0 w : World) (b : Nat) (s : BSt) (A : Option Addr) (n c : Nat) (l : List Int) (h : Own w0 w b s) (hr : Reads w w.heap.size 1 A n (ints l))
    (hne : ∀ ad, A = some ad → ad.block ≠ b) (hn : n ≤ 65536) :
    Calls Try.prog 16 #[.pointer (some ⟨b, 0, none⟩), .slice A n c] w fun e w' => ∃ v, e = .returned v ∧
      w'.ownsRow w.heap.size 53 2 v (takeL s l (ownB s l)).length (idCells (takeL s l (ownB s l))) ∧ w.grownBy w' (some b) ∧ Own w0 w' b (takeS s l (ownB s l)) :=
  (take_any b s A n c l w h.bt h.ok hr hne hn).mono fun _ _ ⟨v, he, hown, hb, hg⟩ => ⟨v, he, hown, hg, h.only hg hb (takeS_Ok h.ok l _)⟩

set_option maxRecDepth 100000 in
set_option maxHeartbeats 2000000 in
theorem examples_any (w : World) : Calls Try.prog 8 #[] w fun e w' => e = .returned (.bool true) ∧ Below w.heap.size w w' := by
  go_enter Try.func8, Try.ntmps8
  go_wp2_with fail
  refine (new_bad 3 4 1 _ (by decide) (by omega)).mono ?_
  rintro e w1 ⟨rfl, rfl⟩
  go_wp2_with fail
  refine (own_new 3 1 10 w w (by decide) (Below.refl _ _)).mono ?_
  rintro e w1 ⟨b, rfl, h1⟩
  have hs1 := h1.bel.size
  go_wp2_with fail
  refine (own_alive w _ b _ 2 0 false h1 (by decide) (by omega) (by omega)).mono ?_
  rintro e w2 ⟨rfl, h2, n1, hw2⟩
  clear hw2 h1
  go_wp2_with fail
  refine (own_heard w _ b _ 2 5 true h2 (by decide) (by omega) (by omega)).mono ?_
  rintro e w3 ⟨rfl, h3⟩
  clear h2
  go_wp2_with fail
  refine (own_mark w _ b _ 3 2 true h3 (by decide)).mono ?_
  rintro e w4 ⟨rfl, h4⟩
  clear h3
  go_wp2_with fail
  refine (own_mark w _ b _ 3 2 false h4 (by decide)).mono ?_
  rintro e w5 ⟨rfl, h5⟩
  clear h4
  have hlt5 := h5.bt.lt
  go_wp2_with fail
  refine (own_take w _ b _ _ 3 3 [0, 1, 4] (h5.alloc (.cells (#[.int .i64 0, .int .i64 1, .int .i64 4] : Array Value) 3)) (Reads.of_own (World.ownsRow_lit w5 (#[.int .i64 0, .int .i64 1, .int .i64 4] : Array Value) 3 (Nat.le_refl _) (by simp [maxLen]) rfl)) ?_ (by omega)).mono ?_
  · intro ad e
    injection e with e
    subst e
    show w5.heap.size ≠ b
    omega
  rintro e w6 ⟨v, rfl, hv, hg6, h6⟩
  have hz6 := hg6.size
  simp only [World.size_alloc] at hz6
  clear h5
  have el : takeL (markS (markS (heardS (BSt.init 3 1 10) 2 5) 3 2) 3 2) [0, 1, 4] (ownB (markS (markS (heardS (BSt.init 3 1 10) 2 5) 3 2) 3 2) [0, 1, 4]) = [(2, 1), (3, 3), (3, 4)] := by decide
  rw [el] at hv
  clear el
  obtain ⟨g, cap, rfl, hgb, hgl⟩ := hv.form (by simp)
  simp only [List.length_cons, List.length_nil, Nat.zero_add, Nat.reduceAdd] at hv ⊢
  have hlt6 := h6.bt.lt
  go_wp2_with fail
  refine (own_marks w _ b _ h6).mono ?_
  rintro e w7 ⟨g2, cap2, rfl, hg2, hm, hb7, h7⟩
  clear h6
  have em : (takeS (markS (markS (heardS (BSt.init 3 1 10) 2 5) 3 2) 3 2) [0, 1, 4] (ownB (markS (markS (heardS (BSt.init 3 1 10) 2 5) 3 2) 3 2) [0, 1, 4])).marks = [0, 1, 4] := by decide
  have en : (takeS (markS (markS (heardS (BSt.init 3 1 10) 2 5) 3 2) 3 2) [0, 1, 4] (ownB (markS (markS (heardS (BSt.init 3 1 10) 2 5) 3 2) 3 2) [0, 1, 4])).n.toNat = 3 := by decide
  rw [em, en] at hm
  rw [en]
  clear em en
  have hv7 := hv.kept (below_grown_none hb7) (.inr (by simp [Value.ownBlock]))
  have c0 : w7.cell? ⟨g, 0, none⟩ = some (.int .i64 2) := hv7.cellAt 0 (by omega)
  have c5 : w7.cell? ⟨g, 5, none⟩ = some (.int .i64 4) := hv7.cellAt 5 (by omega)
  have d1 : w7.cell? ⟨g2, 1, none⟩ = some (.int .i64 1) := hm.cellAt 1 (by omega)
  have d2 : w7.cell? ⟨g2, 2, none⟩ = some (.int .i64 4) := hm.cellAt 2 (by omega)
  clear hv hv7 hm hb7
  go_wp2_with fail
  refine (own_alive w _ b _ 2 14 true h7 (by decide) (by omega) (by omega)).mono ?_
  rintro e w8 ⟨rfl, h8, n2, rfl⟩
  clear h7
  go_wp2_with fail
  refine (own_alive w _ b _ 2 15 false h8 (by decide) (by omega) (by omega)).mono ?_
  rintro e w9 ⟨rfl, h9, n3, rfl⟩
  clear h8
  simp only [World.drewN_drewN] at h9
  go_wp2_with fail
  refine (own_alive w _ b _ 1 99 true h9 (by decide) (by omega) (by omega)).mono ?_
  rintro e w10 ⟨rfl, h10, n4, rfl⟩
  clear h9
  simp only [World.drewN_drewN] at h10
  go_wp2_with fail
  refine (own_heard w _ b _ 1 1 false h10 (by decide) (by omega) (by omega)).mono ?_
  rintro e w11 ⟨rfl, h11⟩
  clear h10
  go_wp2_with fail
  go_ret
  exact ⟨rfl, h11.bel⟩

end Go.Proofs.Ytonjpdidbgicgaa
