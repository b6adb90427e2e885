/-
  Which of two instances stands ahead; how far a world has only grown. No condition of a statement stands here.
-/
import Derived.Test.YtflalllbplcgbaaK2
import Derived.Test.YtflalllbplcgbaaProg
import Derived.WalkKit
import Derived.WalkSpells
import Derived.WalkLawsBesides
import Derived.StillTailTactics
import Derived.BigQuiet
import Derived.Lib.Hide
import Derived.Deep.RegionHeld3
import Derived.Sort.Grow
namespace Go.Proofs.Ytflalllbplcgbaa
open Go.RowKit Go.Sort

theorem mixed : Try.prog.follows .mixedOrders = true := by kernel_rfl

/-- Some draws, some new blocks: nothing else. -/
def Gr (w w' : World) : Prop := ∃ q os, w' = grow (w.drewN q) os
section
variable {w w' v : World}
theorem Gr.refl (w : World) : Gr w w := ⟨0, #[], by rw [grow_empty]; rfl⟩
theorem Gr.alloc (h : Gr w w') (o : Obj) : Gr w (w'.alloc o) := by
  obtain ⟨q, os, rfl⟩ := h
  exact ⟨q, _, by rw [alloc_eq_grow, grow_grow]⟩
theorem Gr.drewN (h : Gr w w') (n : Nat) : Gr w (w'.drewN n) := by
  obtain ⟨q, os, rfl⟩ := h
  exact ⟨q + n, os, by rw [← World.drewN_drewN]; rfl⟩
theorem Gr.drew (h : Gr w w') : Gr w w'.drew := h.drewN 1
theorem Gr.trans (h : Gr w w') (k : Gr w' v) : Gr w v := by
  obtain ⟨q, os, rfl⟩ := h
  obtain ⟨q', os', rfl⟩ := k
  exact ⟨q + q', os ++ os', by rw [← World.drewN_drewN, ← grow_grow]; rfl⟩
theorem Gr.below (h : Gr w w') : Below w.heap.size w w' := by
  obtain ⟨q, os, rfl⟩ := h
  exact ⟨rfl, rfl, rfl, by rw [size_grow]; exact Nat.le_add_right _ _, fun i hi => heap_grow_old (w.drewN q) os hi⟩
theorem Gr.size (h : Gr w w') : w.heap.size ≤ w'.heap.size := h.below.size
end

def cmpZ (a b : Int) : Int := if a < b then -1 else if b < a then 1 else 0
def ordZ (p q : Int × Int) : Int := if cmpZ p.1 q.1 = 0 then cmpZ p.2 q.2 else cmpZ p.1 q.1

set_option maxHeartbeats 400000 in
theorem isnan_any (a : Int) (w : World) : Calls Try.prog 44 #[.int .i64 a] w fun e w' => e = .returned (.bool false) ∧ w = w' := by
  go_enter Try.func44, Try.ntmps44
  go_wp2
  go_ret
  exact ⟨by simp, rfl⟩

set_option maxHeartbeats 400000 in
theorem compare_any (a b : Int) (w : World) : Calls Try.prog 38 #[.int .i64 a, .int .i64 b] w fun e w' => e = .returned (.int .i64 (cmpZ a b)) ∧ w = w' := by
  have h : (a < b ∧ cmpZ a b = -1) ∨ (b ≤ a ∧ b < a ∧ cmpZ a b = 1) ∨ (a = b ∧ cmpZ a b = 0) := by
    unfold cmpZ
    rcases Int.lt_trichotomy a b with h | h | h
    · left; exact ⟨h, if_pos h⟩
    · right; right; exact ⟨h, by rw [if_neg (by omega), if_neg (by omega)]⟩
    · right; left; exact ⟨by omega, h, by rw [if_neg (by omega), if_pos h]⟩
  rcases h with ⟨h, e⟩ | ⟨h1, h, e⟩ | ⟨h, e⟩
  · rw [e]
    clear e
    go_enter Try.func38, Try.ntmps38
    go_wp2_with (go_at_call 44; refine (isnan_any _ _).mono ?_; rintro e w' ⟨rfl, rfl⟩)
    go_ret
    exact ⟨rfl, rfl⟩
  · rw [e]
    clear e
    go_enter Try.func38, Try.ntmps38
    go_wp2_with (go_at_call 44; refine (isnan_any _ _).mono ?_; rintro e w' ⟨rfl, rfl⟩)
    go_ret
    exact ⟨rfl, rfl⟩
  · rw [e]
    subst h
    clear e
    have h1 : ¬ a < a := by omega
    go_enter Try.func38, Try.ntmps38
    go_wp2_with (go_at_call 44; refine (isnan_any _ _).mono ?_; rintro e w' ⟨rfl, rfl⟩)
    go_ret
    exact ⟨rfl, rfl⟩

set_option maxHeartbeats 1000000 in
theorem or_any (a b : Int) (g : Nat) (w : World) (h0 : w.cell? ⟨g, 0, none⟩ = some (.int .i64 a)) (h1 : w.cell? ⟨g, 1, none⟩ = some (.int .i64 b)) :
    Calls Try.prog 37 #[.slice (some ⟨g, 0, none⟩) 2 2] w fun e w' => e = .returned (.int .i64 (if a = 0 then b else a)) ∧ w = w' := by
  go_enter Try.func37, Try.ntmps37
  go_wp2_with fail
  go_loopg [8] 3 (fun q i wr => wr = w ∧ ((i = .int .i64 0 ∧ q = 3) ∨ (i = .int .i64 1 ∧ q = 2 ∧ a = 0) ∨ (i = .int .i64 2 ∧ q = 1 ∧ a = 0 ∧ b = 0)))
  case atStart => exact ⟨rfl, .inl ⟨rfl, rfl⟩⟩
  case round =>
    obtain ⟨rfl, hc⟩ := hrel
    rcases hc with ⟨rfl, rfl⟩ | ⟨rfl, rfl, ha⟩ | ⟨rfl, rfl, ha, hb⟩
    · by_cases ha : a = 0
      · have hz : (a != 0) = false := by simp [ha]
        have A := hide ha
        clear ha
        go_wp2_with fail
        go_roundg 2
        case measure => omega
        case rel => exact ⟨rfl, .inr (.inl ⟨rfl, rfl, A.out⟩)⟩
      · have hz : (a != 0) = true := by simp [ha]
        have A := hide ha
        clear ha
        go_wp2_with fail
        go_ret
        exact ⟨by first | rfl | rw [if_neg A.out], rfl⟩
    · by_cases hb : b = 0
      · have hz : (b != 0) = false := by simp [hb]
        have A := hide ha
        have B := hide hb
        clear ha hb
        go_wp2_with fail
        go_roundg 1
        case measure => omega
        case rel => exact ⟨rfl, .inr (.inr ⟨rfl, rfl, A.out, B.out⟩)⟩
      · have hz : (b != 0) = true := by simp [hb]
        have A := hide ha
        clear ha hb
        go_wp2_with fail
        go_ret
        exact ⟨by first | rfl | rw [if_pos A.out], rfl⟩
    · have A := hide ha
      have B := hide hb
      clear ha hb
      go_wp2_with fail
      go_ret
      exact ⟨by first | rfl | (rw [B.out]; rfl) | rw [if_pos A.out, B.out], rfl⟩

theorem order_cells (a b c d : Int) (w : World) (x : Obj) :
    let W := ((w.alloc (.cells #[.int .i64 a, .int .i64 b] 36)).alloc (.cells #[.int .i64 c, .int .i64 d] 36))
    (W.cell? ⟨w.heap.size, 0, none⟩ = some (.int .i64 a) ∧ W.cell? ⟨w.heap.size, 1, none⟩ = some (.int .i64 b) ∧ W.cell? ⟨w.heap.size + 1, 0, none⟩ = some (.int .i64 c) ∧ W.cell? ⟨w.heap.size + 1, 1, none⟩ = some (.int .i64 d)) ∧
    ((W.alloc x).cell? ⟨w.heap.size, 0, none⟩ = some (.int .i64 a) ∧ (W.alloc x).cell? ⟨w.heap.size, 1, none⟩ = some (.int .i64 b) ∧ (W.alloc x).cell? ⟨w.heap.size + 1, 0, none⟩ = some (.int .i64 c) ∧ (W.alloc x).cell? ⟨w.heap.size + 1, 1, none⟩ = some (.int .i64 d)) ∧
    Below w.heap.size w (W.alloc x) := by
  intro W
  have ka := (Blk.new w 36 #[.int .i64 a, .int .i64 b]).alloc (.cells #[.int .i64 c, .int .i64 d] 36)
  have kb := Blk.new (w.alloc (.cells #[.int .i64 a, .int .i64 b] 36)) 36 #[.int .i64 c, .int .i64 d]
  rw [World.size_alloc] at kb
  exact ⟨⟨(ka.cell 0).trans rfl, (ka.cell 1).trans rfl, (kb.cell 0).trans rfl, (kb.cell 1).trans rfl⟩,
    ⟨((ka.alloc x).cell 0).trans rfl, ((ka.alloc x).cell 1).trans rfl, ((kb.alloc x).cell 0).trans rfl, ((kb.alloc x).cell 1).trans rfl⟩,
    (((Below.refl _ w).alloc (Nat.le_refl _) _).alloc (by simp) _).alloc (by simp; omega) _⟩

theorem order_two (a b c d e f : Int) (w : World) :
    let W := (((w.alloc (.cells #[.int .i64 a, .int .i64 b] 36)).alloc (.cells #[.int .i64 c, .int .i64 d] 36)).alloc (.cells #[.int .i64 e, .int .i64 f] 3))
    W.drew.cell? ⟨w.heap.size + 1 + 1, 0, none⟩ = some (.int .i64 e) ∧ W.drew.cell? ⟨w.heap.size + 1 + 1, 1, none⟩ = some (.int .i64 f) := by
  intro W
  have kc := Blk.new ((w.alloc (.cells #[.int .i64 a, .int .i64 b] 36)).alloc (.cells #[.int .i64 c, .int .i64 d] 36)) 3 #[.int .i64 e, .int .i64 f]
  rw [World.size_alloc, World.size_alloc] at kc
  exact ⟨(kc.cell 0).trans rfl, (kc.cell 1).trans rfl⟩

set_option maxHeartbeats 1000000 in
theorem order_any (a b c d : Int) (w : World) :
    Calls Try.prog 25 #[.agg #[.int .i64 a, .int .i64 b], .agg #[.int .i64 c, .int .i64 d]] w fun e w' => e = .returned (.int .i64 (ordZ (a, b) (c, d))) ∧ Gr w w' := by
  obtain ⟨⟨a0, a1, b0, b1⟩, ⟨a0', a1', b0', b1'⟩, hB⟩ := order_cells a b c d w (.cells #[.int .i64 (cmpZ a c), .int .i64 (cmpZ b d)] 3)
  have c0 := (order_two a b c d (cmpZ a c) (cmpZ b d) w).1
  have c1 := (order_two a b c d (cmpZ a c) (cmpZ b d) w).2
  obtain ⟨r, hO⟩ : ∃ r, r = ordZ (a, b) (c, d) := ⟨_, rfl⟩
  rw [← hO]
  have or_named : ∀ W : World, W.cell? ⟨w.heap.size + 1 + 1, 0, none⟩ = some (.int .i64 (cmpZ a c)) → W.cell? ⟨w.heap.size + 1 + 1, 1, none⟩ = some (.int .i64 (cmpZ b d)) → Calls Try.prog 37 #[.slice (some ⟨w.heap.size + 1 + 1, 0, none⟩) 2 2] W fun e w' => e = .returned (.int .i64 r) ∧ W = w' := by
    intro W h0 h1
    rw [hO]
    exact or_any _ _ _ W h0 h1
  have HO := hide hO
  clear hO hB
  go_enter Try.func25, Try.ntmps25
  go_wp2_with fail
  go_region_held3 (fun w' => w'.cell? ⟨w.heap.size, 0, none⟩ = some (.int .i64 a) ∧ w'.cell? ⟨w.heap.size, 1, none⟩ = some (.int .i64 b) ∧ w'.cell? ⟨w.heap.size + 1, 0, none⟩ = some (.int .i64 c) ∧ w'.cell? ⟨w.heap.size + 1, 1, none⟩ = some (.int .i64 d)) (first | exact ⟨a0, a1, b0, b1⟩ | exact ⟨a0', a1', b0', b1'⟩)
    (first
      | (go_at_call 38; refine (compare_any _ _ _).mono ?_; rintro e w1 ⟨rfl, rfl⟩)
      | (go_at_call 37; refine (or_named _ c0 c1).mono ?_; rintro e w2 ⟨rfl, rfl⟩))
  go_wp2_with fail
  go_ret
  exact ⟨rfl, ((((Gr.refl w).alloc _).alloc _).alloc _).drew⟩

end Go.Proofs.Ytflalllbplcgbaa
