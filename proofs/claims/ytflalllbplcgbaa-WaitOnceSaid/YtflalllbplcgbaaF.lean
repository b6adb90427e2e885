/-
  Chapter 18: the order of waits; the closures; the library's sort at waits.
-/
import Derived.Test.YtflalllbplcgbaaE
import Derived.Test.YtflalllbplcgbaaQ
import Derived.Test.YtflalllbplcgbaaLS
namespace Go.Proofs.Ytflalllbplcgbaa
open Go.RowKit Go.Sort Go.Maps Go.Shelf

instance : Inhabited It := ⟨zeroIt⟩
theorem It.len (x : It) : x.cells.length = 4 := rfl
theorem It.one (x : It) : ∀ v ∈ x.cells, v.oneCell' = true := by
  intro v hv
  simp only [It.cells, List.mem_cons, List.not_mem_nil, or_false] at hv
  rcases hv with rfl | rfl | rfl | rfl <;> rfl

def idZ (x y : It) : Int := ordZ (x.o, x.n) (y.o, y.n)
def atZ (x y : It) : Int := cmpZ x.at_ y.at_

theorem cmpZ_neg {a b : Int} : cmpZ a b < 0 ↔ a < b := by unfold cmpZ; split <;> (try split) <;> omega
theorem cmpZ_zero {a b : Int} : cmpZ a b = 0 ↔ a = b := by unfold cmpZ; split <;> (try split) <;> omega
theorem ordZ_neg {a b c d : Int} : ordZ (a, b) (c, d) < 0 ↔ a < c ∨ (a = c ∧ b < d) := by
  unfold ordZ
  by_cases h : a = c
  · rw [if_pos (cmpZ_zero.2 h), cmpZ_neg]
    omega
  · rw [if_neg (fun e => h (cmpZ_zero.1 e)), cmpZ_neg]
    omega
theorem ordZ_zero {a b c d : Int} : ordZ (a, b) (c, d) = 0 ↔ a = c ∧ b = d := by
  unfold ordZ
  by_cases h : a = c
  · rw [if_pos (cmpZ_zero.2 h), cmpZ_zero]
    simp [h]
  · rw [if_neg (fun e => h (cmpZ_zero.1 e)), cmpZ_zero]
    omega
theorem idZ_lt {x y : It} : ltOf idZ x y = true ↔ x.o < y.o ∨ (x.o = y.o ∧ x.n < y.n) := by
  unfold ltOf idZ
  rw [decide_eq_true_iff, ordZ_neg]
theorem idZ_not {x y : It} : ltOf idZ x y = false ↔ ¬ (x.o < y.o ∨ (x.o = y.o ∧ x.n < y.n)) := by
  rw [← idZ_lt]
  simp
theorem swo_id : SWO (ltOf idZ) where
  irrefl x := idZ_not.2 (by omega)
  trans x y z h1 h2 := by rw [idZ_lt] at *; omega
  ntrans x y z h1 h2 := by rw [idZ_not] at *; omega

set_option maxHeartbeats 400000 in
theorem byId_any (x y : It) (w : World) : Calls Try.prog 36 #[.agg x.cells.toArray, .agg y.cells.toArray] w fun e w' => e = .returned (.int .i64 (idZ x y)) ∧ Gr w w' := by
  unfold It.cells idZ
  obtain ⟨r, hr⟩ : ∃ r, r = ordZ (x.o, x.n) (y.o, y.n) := ⟨_, rfl⟩
  rw [← hr]
  have HC : ∀ W, Calls Try.prog 25 #[.agg #[.int .i64 x.o, .int .i64 x.n], .agg #[.int .i64 y.o, .int .i64 y.n]] W fun e w' => e = .returned (.int .i64 r) ∧ Gr W w' := fun W => by rw [hr]; exact order_any _ _ _ _ W
  have HH := hide HC
  clear HC hr
  go_enter Try.func36, Try.ntmps36
  go_wp2_with fail
  refine (HH.out _).mono ?_
  rintro e w1 ⟨rfl, hg⟩
  have G := hide hg
  clear hg
  go_wp2_with fail
  go_ret
  exact ⟨rfl, (((Gr.refl w).alloc _).alloc _).trans G.out⟩

set_option maxHeartbeats 400000 in
theorem isnanU_any (a : Int) (w : World) : Calls Try.prog 41 #[.int .u64 a] w fun e w' => e = .returned (.bool false) ∧ w = w' := by
  go_enter Try.func41, Try.ntmps41
  go_wp2
  go_ret
  exact ⟨by simp, rfl⟩

set_option maxHeartbeats 400000 in
theorem compareU_any (a b : Int) (w : World) : Calls Try.prog 32 #[.int .u64 a, .int .u64 b] w fun e w' => e = .returned (.int .i64 (cmpZ a b)) ∧ w = w' := by
  have h : (a < b ∧ cmpZ a b = -1) ∨ (b ≤ a ∧ b < a ∧ cmpZ a b = 1) ∨ (a = b ∧ cmpZ a b = 0) := by
    unfold cmpZ
    rcases Int.lt_trichotomy a b with h | h | h
    · left; exact ⟨h, if_pos h⟩
    · right; right; exact ⟨h, by rw [if_neg (by omega), if_neg (by omega)]⟩
    · right; left; exact ⟨by omega, h, by rw [if_neg (by omega), if_pos h]⟩
  rcases h with ⟨h, e⟩ | ⟨h1, h, e⟩ | ⟨h, e⟩
  · rw [e]
    clear e
    go_enter Try.func32, Try.ntmps32
    go_wp2_with (go_at_call 41; refine (isnanU_any _ _).mono ?_; rintro e w' ⟨rfl, rfl⟩)
    go_ret
    exact ⟨rfl, rfl⟩
  · rw [e]
    clear e
    go_enter Try.func32, Try.ntmps32
    go_wp2_with (go_at_call 41; refine (isnanU_any _ _).mono ?_; rintro e w' ⟨rfl, rfl⟩)
    go_ret
    exact ⟨rfl, rfl⟩
  · rw [e]
    subst h
    clear e
    have h1 : ¬ a < a := by omega
    go_enter Try.func32, Try.ntmps32
    go_wp2_with (go_at_call 41; refine (isnanU_any _ _).mono ?_; rintro e w' ⟨rfl, rfl⟩)
    go_ret
    exact ⟨rfl, rfl⟩

set_option maxHeartbeats 400000 in
theorem byAt_any (x y : It) (w : World) : Calls Try.prog 31 #[.agg x.cells.toArray, .agg y.cells.toArray] w fun e w' => e = .returned (.int .i64 (atZ x y)) ∧ Gr w w' := by
  unfold It.cells atZ
  obtain ⟨r, hr⟩ : ∃ r, r = cmpZ x.at_ y.at_ := ⟨_, rfl⟩
  rw [← hr]
  have HC : ∀ W, Calls Try.prog 32 #[.int .u64 x.at_, .int .u64 y.at_] W fun e w' => e = .returned (.int .i64 r) ∧ W = w' := fun W => by rw [hr]; exact compareU_any _ _ W
  have HH := hide HC
  clear HC hr
  go_enter Try.func31, Try.ntmps31
  go_wp2_with fail
  refine (HH.out _).mono ?_
  rintro e w1 ⟨rfl, rfl⟩
  go_wp2_with fail
  go_ret
  exact ⟨rfl, ((Gr.refl w).alloc _).alloc _⟩

set_option maxHeartbeats 400000 in
/-- The closure of Due: is its time still to come? -/
theorem late_any (x : It) (now : Int) (g : Nat) (w : World) (hg : w.cell? ⟨g, 0, none⟩ = some (.int .u64 now)) :
    Calls Try.prog 29 #[.agg x.cells.toArray, .pointer (some ⟨g, 0, none⟩)] w fun e w' => e = .returned (.bool (decide (now < x.at_))) ∧ w' = w.alloc (.cells x.cells.toArray 47) := by
  have hlt := World.block_lt_of_cell? w _ hg
  have hc : (w.alloc (.cells x.cells.toArray 47)).cell? ⟨g, 0, none⟩ = some (.int .u64 now) := (World.cell?_alloc_lt w _ ⟨g, 0, none⟩ hlt).trans hg
  have hx := (Blk.new w 47 x.cells.toArray).cell 1
  unfold It.cells at hc hx ⊢
  have hx1 := hx.trans rfl
  clear hx
  go_enter Try.func29, Try.ntmps29
  go_wp2_with fail
  go_ret
  exact ⟨by simp, rfl⟩

theorem byId_enters (args : Array Value) (w : World) : (callFunc 36 args).run Try.prog w = .ok (.enter 36 args) w := enters_of Try.func36 (by kernel_rfl) rfl args w
theorem byAt_enters (args : Array Value) (w : World) : (callFunc 31 args).run Try.prog w = .ok (.enter 31 args) w := enters_of Try.func31 (by kernel_rfl) rfl args w

theorem byId_lays (blk size : Nat) (w : World) : CmpLays Try.prog 36 #[] It.cells 4 idZ blk 0 size w :=
  fun _ _ _ _ x y => (byId_any x y _).mono fun _ _ h => h
theorem byAt_lays (blk size : Nat) (w : World) : CmpLays Try.prog 31 #[] It.cells 4 atZ blk 0 size w :=
  fun _ _ _ _ x y => (byAt_any x y _).mono fun _ _ h => h

end Go.Proofs.Ytflalllbplcgbaa
