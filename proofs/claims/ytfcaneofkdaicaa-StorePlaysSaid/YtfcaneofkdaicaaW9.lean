/-
  Chapter 16: Apply whole; the logs told, the keys: walked.
-/
import Derived.Test.YtfcaneofkdaicaaW8p
import Derived.Test.YtfcaneofkdaicaaW8g
import Derived.Test.YtfcaneofkdaicaaW8d
import Derived.Test.YtfcaneofkdaicaaLS
namespace Go.Proofs.Ytfcaneofkdaicaa
open Go.RowKit Go.Sort Go.Maps Go.Shelf

def Applied (w0 w : World) (F : List Nat) (B bv bl bd : Nat) (acc : List Cm) (x : Cm) (e : Ending) (w' : World) : Prop :=
  e = .returned (.tuple #[(told acc x).val, .bool (newC acc x)]) ∧ ∃ F', SS w0 w' F' B bv bl bd (applyC acc x) ∧ Only (· ∈ F) w w' ∧ ∀ b ∈ F', b ∈ F ∨ w.heap.size ≤ b

theorem applied_not {w0 w w' : World} {F : List Nat} {B bv bl bd : Nat} {acc : List Cm} {x : Cm} {e : Ending} (h : SS w0 w F B bv bl bd acc) (hn : newC acc x = false) (he : e = .returned (.tuple #[Rp.zero.val, .bool false])) (hb : Below w.heap.size w w') : Applied w0 w F B bv bl bd acc x e w' := by
  refine ⟨?_, F, ?_, Only.of_below _ hb, fun b hb => .inl hb⟩
  · unfold told
    rw [hn, if_neg (by simp)]
    exact he
  · unfold applyC
    rw [hn, if_neg (by simp)]
    exact h.below hb

/-- Apply: what it tells, and what is done then. -/
theorem apply_any {w0 w : World} {F : List Nat} {B bv bl bd : Nat} {acc : List Cm} (h : SS w0 w F B bv bl bd acc) (x : Cm) (hf : x.Fit) (hlen : acc.length ≤ 1000000) :
    Calls Try.prog 12 #[.pointer (some ⟨B, 0, none⟩), x.val] w (Applied w0 w F B bv bl bd acc x) := by
  cases hr : rightC x with
  | false =>
    have hn : newC acc x = false := by
      unfold rightC at hr
      rw [Bool.or_eq_false_iff] at hr
      unfold newC
      rw [hr.2, Bool.false_and]
    exact (apply_wrong h x hr).mono fun e w' ⟨he, hb⟩ => applied_not h hn he hb
  | true =>
    by_cases h0 : x.o = 0
    · have hn : newC acc x = false := by
        unfold newC okC
        rw [decide_eq_false (by omega), Bool.false_and]
      obtain ⟨o, c, s, k, v⟩ := x
      simp only at h0
      subst h0
      exact (apply_noop h c s k v hr).mono fun e w' ⟨he, hb⟩ => applied_not h hn he hb
    · have hok : okC x = true := by
        unfold rightC at hr
        rw [Bool.or_eq_true] at hr
        rcases hr with hr | hr
        · unfold zeroB at hr
          exact absurd (of_decide_eq_true hr).1 h0
        · exact hr
      have hks := known_some acc x.c x.s
      cases hk : knownOf acc x.c x.s with
      | some y =>
        rw [hk] at hks
        have hn : newC acc x = false := by
          unfold newC
          rw [← hks, Option.isSome_some]
          simp
        exact (apply_known h x hf hr h0 y hk).mono fun e w' ⟨he, hb⟩ => applied_not h hn he hb
      | none =>
        rw [hk] at hks
        have hn : newC acc x = true := by
          unfold newC
          rw [← hks, hok]
          rfl
        have hl : (logOf acc x.k).length ≤ 1000000 := Nat.le_trans (List.length_filter_le _ _) hlen
        have ht : told acc x = rep acc x := by unfold told; rw [hn, if_pos rfl]
        have ha : applyC acc x = acc ++ [x] := by unfold applyC; rw [hn, if_pos rfl]
        unfold Applied
        rw [ht, ha, hn]
        obtain ⟨o, c, s, k, v⟩ := x
        have ho := of_decide_eq_true (show decide _ = true from hok)
        simp only at ho hl
        have : o = 1 ∨ o = 2 ∨ o = 3 := by omega
        rcases this with rfl | rfl | rfl
        · exact apply_put h c s k v hf hn hl
        · exact apply_get h c s k v hf hn hl
        · exact apply_del h c s k v hf hn hl

/-- The log of a key, told. -/
def LogTold (w : World) (acc : List Cm) (k : ByteArray) (e : Ending) (w' : World) : Prop :=
  ∃ v, e = .returned v ∧ w'.ownsRow w.heap.size 33 5 v (logOf acc k).length (cellsL Cm.cells (logOf acc k)) ∧ Below w.heap.size w w'

theorem logL_of {w0 w : World} {F : List Nat} {B bv bl bd : Nat} {acc : List Cm} (h : SS w0 w F B bv bl bd acc) (k : ByteArray) : ∃ gs, LogsAt w w0.heap.size bl gs (logsOf acc) ∧ logL gs k = logOf acc k := by
  obtain ⟨gs, h1, _⟩ := h.lg
  refine ⟨gs, h1, ?_⟩
  rw [← logsOf_get, ← h1.eq, logL_get]

end Go.Proofs.Ytfcaneofkdaicaa
