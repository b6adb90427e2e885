/-
  Chapter 19: are two lists alike, walked through its text: two equal ones are.
-/
import Derived.Test.YtonjpdidbgicgaaS2
import Derived.Test.YtonjpdidbgicgaaW3
namespace Go.Proofs.Ytonjpdidbgicgaa
open Go.RowKit

theorem add_zero_row (g j : Nat) : (⟨g, 0, none⟩ : Addr).add j = ⟨g, j, none⟩ := by unfold Addr.add; split <;> simp_all

/-- A slice that starts at the head of a row of its own (or has no elements). -/
def Heads (A : Option Addr) (n : Nat) : Prop := 0 < n → ∃ g, A = some ⟨g, 0, none⟩

theorem ids_at0 {w : World} {B n : Nat} {A : Option Addr} {l : List (Int × Int)} {k : Nat} (h : Reads w B 2 A n (idCells l)) (hA : Heads A n) (hk : k < n) :
    ∃ g p, A = some ⟨g, 0, none⟩ ∧ g < B ∧ l[k]? = some p ∧ w.cell? ⟨g, k * 2, none⟩ = some (.int .i64 p.1) ∧ w.cell? ⟨g, k * 2 + 1, none⟩ = some (.int .i64 p.2) := by
  obtain ⟨g, rfl⟩ := hA (by omega)
  obtain ⟨ad, e, hb, hc⟩ := h.2 (by omega)
  injection e with e
  subst e
  simp only [add_zero_row] at hc
  have hl : k < l.length := by have := h.1; rw [idCells_length] at this; omega
  exact ⟨g, l[k], rfl, hb, List.getElem?_eq_getElem hl, hc _ _ (idCells_get0 l k hl), hc _ _ (idCells_get1 l k hl)⟩

set_option maxRecDepth 100000 in
set_option maxHeartbeats 1000000 in
theorem alike_same (A A' : Option Addr) (n c c' : Nat) (l : List (Int × Int)) (w : World) (hr : Reads w w.heap.size 2 A n (idCells l)) (hr' : Reads w w.heap.size 2 A' n (idCells l)) (hA : Heads A n) (hA' : Heads A' n) (hn : n ≤ 65536) :
    Calls Try.prog 15 #[.slice A n c, .slice A' n c'] w fun e w' => e = .returned (.bool true) ∧ ∃ m, w' = w.drewN m := by
  have H := hide hr
  have H' := hide hr'
  have HA := hide hA
  have HA' := hide hA'
  clear hr hr' hA hA'
  go_enter Try.func15, Try.ntmps15
  go_wp2
  go_loopg [5] (n + 1) (fun m i wr => ∃ k : Nat, i = .int .i64 k ∧ k ≤ n ∧ m = n + 1 - k ∧ ∃ d, wr = w.drewN d)
  case atStart => exact ⟨0, rfl, by omega, by omega, 0, rfl⟩
  case round =>
    obtain ⟨k, rfl, hk, rfl, d, hw⟩ := hrel
    have H1 : Reads wr w.heap.size 2 A n (idCells l) := by rw [hw]; exact H.out.drewN d
    have H2 : Reads wr w.heap.size 2 A' n (idCells l) := by rw [hw]; exact H'.out.drewN d
    have HW := hide hw
    clear hw
    by_cases hlt : k < n
    · obtain ⟨g, p, hA, _, hp, c1, c2⟩ := ids_at0 H1 HA.out hlt
      obtain ⟨g', p', hA', _, hp', c1', c2'⟩ := ids_at0 H2 HA'.out hlt
      have e : p' = p := by rw [hp] at hp'; exact (Option.some.inj hp').symm
      subst e
      subst hA
      subst hA'
      have k1 : (k : Int) < n := by omega
      have q1 : ((p'.1 : Int) != p'.1) = false := by simp
      have q2 : ((p'.2 : Int) != p'.2) = false := by simp
      clear hp hp' H1 H2
      go_wp2_with fail
      go_quiet (fail)
      go_wp2_with fail
      have HH := HW.out
      subst HH
      go_roundg (n + 1 - (k + 1))
      case measure => omega
      case rel => exact ⟨k + 1, by go_num, by omega, rfl, _, World.drewN_drewN _ _ _⟩
    · have k1 : n ≤ k := by omega
      clear H1 H2
      go_wp2_with fail
      go_ret
      exact ⟨rfl, d, HW.out⟩

end Go.Proofs.Ytonjpdidbgicgaa
