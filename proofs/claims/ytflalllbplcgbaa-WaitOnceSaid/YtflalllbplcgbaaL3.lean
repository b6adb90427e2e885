/-
  Chapter 18: WaitAnew, walked: set anew it waits till its new time alone.
-/
import Derived.Test.YtflalllbplcgbaaY
namespace Go.Proofs.Ytflalllbplcgbaa
open Go.RowKit Go.Sort Go.Maps Go.Shelf

theorem andThen_bool {r : Result Bool} {f g : Bool → World → Result Value} {b : Bool} {w : World} (h : r.andThen f = .ok (.bool b) w) (hf : ∀ x w', f x w' = .ok (.bool x) w') (hg : ∀ x w', g x w' = .ok (.bool (!x)) w') : r.andThen g = .ok (.bool (!b)) w := by
  cases r with
  | ok x w' =>
    rw [Result.andThen_ok, hf] at h
    rw [Result.andThen_ok, hg]
    injection h with h1 h2
    injection h1 with h1
    rw [h1, h2]
  | halt e w' => cases h
theorem neq_id (a b c d : Int) (w : World) : (binOp .neq 36 (.agg #[.int .i64 a, .int .i64 b]) (.agg #[.int .i64 c, .int .i64 d])).run Try.prog w = .ok (.bool (!eqId a b c d)) w := by
  have h := eq_id a b c d w
  rw [run_eql_struct] at h
  rw [run_neq_struct]
  exact andThen_bool h (fun _ _ => rfl) (fun _ _ => rfl)
theorem eqId_iff {a b c d : Int} : eqId a b c d = true ↔ a = c ∧ b = d := by simp [eqId]

theorem fits3 : Fits 3 := by unfold Fits; omega
theorem fits0 : Fits 0 := by unfold Fits; omega

set_option maxHeartbeats 400000 in
theorem new_grown (w0 w : World) (hw : Below w0.heap.size w0 w) : Calls Try.prog 10 #[] w fun e w' => ∃ B b, e = .returned (.pointer (some ⟨B, 0, none⟩)) ∧ WS w0 w' B b [] ∧ Below w.heap.size w w' := by
  have hmm := @run_makeMap Try.prog
  go_enter Try.func10, Try.ntmps10
  go_wp2_with fail
  go_ret
  refine ⟨_, _, rfl, ⟨?_, ?_, (MapIs.made Try.prog 36 w).alloc _, ?_, hw.size, by simp⟩, ((Below.refl _ _).alloc (Nat.le_refl _) _).alloc (by simp) _⟩
  · exact (hw.alloc hw.size _).alloc (by have := hw.size; simp; omega) _
  · have := Blk.new (w.alloc (.map #[] 0)) 67 #[.map (some w.heap.size)]
    rw [World.size_alloc] at this
    exact this
  · have := hw.size; omega

section
variable (w0 w : World) (B b : Nat) (a c t io inn : Int)
abbrev setF : Nat := 21

theorem anew1 (ha : 0 ≤ a ∧ a ≤ 65535) (h : WS w0 w B b []) : Calls Try.prog setF #[.pointer (some ⟨B, 0, none⟩), .agg #[.int .i64 2, .int .i64 3], .int .u64 a, .int .i64 1] w
    fun e w' => e = .returned (.bool true) ∧ WS w0 w' B b [⟨2, 3, a, 1⟩] ∧ w.grownBy w' (some b) :=
  set_any w0 w B b [] ⟨2, 3, a, 1⟩ ⟨ex_fits2, fits3, by simp; omega, ex_fits1⟩ h
theorem anew2_pos (hc : 0 ≤ c ∧ c ≤ 65535) (ht : Fits t) (h0 : 0 ≤ t) (h : WS w0 w B b [⟨2, 3, a, 1⟩]) : Calls Try.prog setF #[.pointer (some ⟨B, 0, none⟩), .agg #[.int .i64 2, .int .i64 3], .int .u64 c, .int .i64 t] w
    fun e w' => e = .returned (.bool true) ∧ WS w0 w' B b [⟨2, 3, c, t⟩] ∧ w.grownBy w' (some b) := by
  have h1 := set_any w0 w B b [⟨2, 3, a, 1⟩] ⟨2, 3, c, t⟩ ⟨ex_fits2, fits3, by simp; omega, ht⟩ h
  rw [show setOk ⟨2, 3, c, t⟩ = true from by simp [setOk, rightB, h0]] at h1
  exact h1
theorem anew2_neg (hc : 0 ≤ c ∧ c ≤ 65535) (ht : Fits t) (h0 : t < 0) (h : WS w0 w B b [⟨2, 3, a, 1⟩]) : Calls Try.prog setF #[.pointer (some ⟨B, 0, none⟩), .agg #[.int .i64 2, .int .i64 3], .int .u64 c, .int .i64 t] w
    fun e w' => e = .returned (.bool false) ∧ WS w0 w' B b [⟨2, 3, a, 1⟩] ∧ w.grownBy w' (some b) := by
  have h1 := set_any w0 w B b [⟨2, 3, a, 1⟩] ⟨2, 3, c, t⟩ ⟨ex_fits2, fits3, by simp; omega, ht⟩ h
  rw [show setOk ⟨2, 3, c, t⟩ = false from by simp [setOk]; omega] at h1
  exact h1
theorem anew3_eq (h : WS w0 w B b [⟨2, 3, c, t⟩]) : Calls Try.prog setF #[.pointer (some ⟨B, 0, none⟩), .agg #[.int .i64 2, .int .i64 3], .int .u64 5, .int .i64 0] w
    fun e w' => e = .returned (.bool true) ∧ WS w0 w' B b [⟨2, 3, 5, 0⟩] ∧ w.grownBy w' (some b) :=
  set_any w0 w B b [⟨2, 3, c, t⟩] ⟨2, 3, 5, 0⟩ ⟨ex_fits2, fits3, by simp, fits0⟩ h
theorem anew3_new (hio : Fits io) (hin : Fits inn) (hr : rightB io inn = true) (he : eqId io inn 2 3 = false) (h : WS w0 w B b [⟨2, 3, c, t⟩]) : Calls Try.prog setF #[.pointer (some ⟨B, 0, none⟩), .agg #[.int .i64 io, .int .i64 inn], .int .u64 5, .int .i64 0] w
    fun e w' => e = .returned (.bool true) ∧ WS w0 w' B b [⟨2, 3, c, t⟩, ⟨io, inn, 5, 0⟩] ∧ w.grownBy w' (some b) := by
  have h1 := set_any w0 w B b [⟨2, 3, c, t⟩] ⟨io, inn, 5, 0⟩ ⟨hio, hin, by simp, fits0⟩ h
  rw [show setOk ⟨io, inn, 5, 0⟩ = true from by simp [setOk, hr], if_pos rfl] at h1
  have hne : ¬ (⟨2, 3, c, t⟩ : It).is io inn := by
    rintro ⟨h1, h2⟩
    have : eqId io inn 2 3 = true := eqId_iff.2 ⟨h1.symm, h2.symm⟩
    rw [he] at this
    cases this
  rw [show putL ⟨io, inn, 5, 0⟩ [⟨2, 3, c, t⟩] = [⟨2, 3, c, t⟩, ⟨io, inn, 5, 0⟩] from by rw [putL, if_neg hne]; rfl] at h1
  exact h1
theorem anew3_no (hio : Fits io) (hin : Fits inn) (hr : rightB io inn = false) (h : WS w0 w B b [⟨2, 3, c, t⟩]) : Calls Try.prog setF #[.pointer (some ⟨B, 0, none⟩), .agg #[.int .i64 io, .int .i64 inn], .int .u64 5, .int .i64 0] w
    fun e w' => e = .returned (.bool false) ∧ WS w0 w' B b [⟨2, 3, c, t⟩] ∧ w.grownBy w' (some b) := by
  have h1 := set_any w0 w B b [⟨2, 3, c, t⟩] ⟨io, inn, 5, 0⟩ ⟨hio, hin, by simp, fits0⟩ h
  rw [show setOk ⟨io, inn, 5, 0⟩ = false from by simp [setOk, hr], if_neg (by simp)] at h1
  exact h1
theorem anew_of (r : List It) (h : WS w0 w B b (⟨2, 3, c, t⟩ :: r)) : Calls Try.prog 24 #[.pointer (some ⟨B, 0, none⟩), .agg #[.int .i64 2, .int .i64 3]] w
    fun e w' => e = .returned (.tuple #[.agg #[.int .i64 2, .int .i64 3, .int .u64 c, .int .i64 t], .bool true]) ∧ Below w.heap.size w w' :=
  of_any w0 w B b (⟨2, 3, c, t⟩ :: r) 2 3 ex_fits2 fits3 h
theorem anew_stop1 (r : List It) (h : WS w0 w B b (⟨2, 3, c, t⟩ :: r)) : Calls Try.prog 17 #[.pointer (some ⟨B, 0, none⟩), .agg #[.int .i64 2, .int .i64 3]] w
    fun e w' => e = .returned (.bool true) ∧ WS w0 w' B b (delL 2 3 (⟨2, 3, c, t⟩ :: r)) ∧ w.grownBy w' (some b) :=
  stop_any w0 w B b (⟨2, 3, c, t⟩ :: r) 2 3 ex_fits2 fits3 h
theorem getL_del (o n : Int) (l : List It) : getL o n (delL o n l) = none := by
  unfold getL delL
  rw [List.find?_eq_none]
  intro x hx
  have := (List.mem_filter.1 hx).2
  simpa using this
theorem anew_stop2 (r : List It) (h : WS w0 w B b (delL 2 3 r)) : Calls Try.prog 17 #[.pointer (some ⟨B, 0, none⟩), .agg #[.int .i64 2, .int .i64 3]] w
    fun e w' => e = .returned (.bool false) ∧ WS w0 w' B b (delL 2 3 (delL 2 3 r)) ∧ w.grownBy w' (some b) := by
  have h1 := stop_any w0 w B b (delL 2 3 r) 2 3 ex_fits2 fits3 h
  rw [getL_del] at h1
  exact h1
theorem anew_all (l : List It) (n : Nat) (hn : l.length = n) (hl : n ≤ 100) (h : WS w0 w B b l) : Calls Try.prog 23 #[.pointer (some ⟨B, 0, none⟩)] w
    fun e w' => ∃ A c, e = .returned (.slice A n c) ∧ WS w0 w' B b l ∧ Below w.heap.size w w' := by
  refine (all_any w0 w B b l (by omega) h).mono ?_
  rintro e w' ⟨v, l', rfl, ha⟩
  obtain ⟨A, c, rfl⟩ := own_slice ha.own
  rw [ha.perm.length_eq, hn]
  exact ⟨A, c, rfl, ha.ws, ha.bel⟩
end

end Go.Proofs.Ytflalllbplcgbaa
