/-
  Chapter 18: WaitOnce: the contracts at its rounds.
-/
import Derived.Test.YtflalllbplcgbaaL8
import Derived.Test.YtflalllbplcgbaaL3
import Derived.Shelf.SlSortCmp.QuietGrown
namespace Go.Proofs.Ytflalllbplcgbaa
open Go.RowKit Go.Sort Go.Maps Go.Shelf

theorem grown_of_gr {f : FuncId} {args : Array Value} {w : World} {n : Nat} {os : Array Obj} {v : Value} (h : Calls Try.prog f args (grow (w.drewN n) os) fun e w' => e = .returned v ∧ Gr (grow (w.drewN n) os) w') :
    Calls Try.prog f args (grow (w.drewN n) os) fun e w'' => e = .returned v ∧ ∃ p : GrownBy, w'' = grow (w.drewN p.n) p.os := Calls.grown_of h

theorem u8_info : (Try.prog.info? 5).map (fun i => (i.zero, i.size, i.bytes)) = some (some (.int .u8 0), 1, 1) := by kernel_rfl
theorem u8_one (L : List Int) : ∀ u ∈ L.map (Value.int .u8), u.oneCell' = true := by
  intro u hu
  obtain ⟨x, _, rfl⟩ := List.mem_map.1 hu
  rfl
theorem reads_take {w : World} {B n k : Nat} {A : Option Addr} {xs : List Value} (h : Reads w B 1 A n xs) (hk : k ≤ n) : Reads w B 1 A k (xs.take k) := by
  refine ⟨by rw [List.length_take, h.1]; omega, fun hn => ?_⟩
  obtain ⟨ad, e, hb, hc⟩ := h.2 (by omega)
  refine ⟨ad, e, hb, fun j u hu => hc j u ?_⟩
  rw [List.getElem?_take] at hu
  split at hu
  · exact hu
  · cases hu

section
variable {w0 w w' : World} {B b : Nat} {L : List Int} {n : Nat}
theorem own_byte {base g c : Nat} (h : w.ownsRow base 5 1 (.slice (some ⟨g, 0, none⟩) n c) n (L.map (.int .u8))) {i : Nat} (hi : i < n) : w.cell? ⟨g, i, none⟩ = some (.int .u8 (L.getD i 0)) := by
  have hl : L.length = n := by have := h.1; simpa using this
  have := h.cells (g := g) rfl i (.int .u8 (L.getD i 0)) (by rw [List.getElem?_map, List.getElem?_eq_getElem (show i < L.length by omega)]; simp [List.getD, hl, hi])
  rwa [show (⟨g, 0, none⟩ : Addr).add i = ⟨g, i, none⟩ from by unfold Addr.add; split <;> simp_all] at this

theorem once_setAt (w0 w : World) (B b : Nat) (hL : BytesL L) (i : Nat) (hi : i ≤ 100) (z : Int) (hz : z = L.getD i 0 % 16) (h : WS w0 w B b (onceL L i)) :
    Calls Try.prog 21 #[.pointer (some ⟨B, 0, none⟩), .agg #[.int .i64 (1 + (i : Int) % 7), .int .i64 (1 + (i : Int) / 7)], .int .u64 z, .int .i64 (i : Int)] w
      fun e w' => e = .returned (.bool true) ∧ WS w0 w' B b (onceL L (i + 1)) ∧ w.grownBy w' (some b) := by
  have h1 := set_any w0 w B b (onceL L i) (onceIt L i) (once_ok hL hi) h
  rw [once_set hi, if_pos rfl, once_put] at h1
  rw [hz]
  exact h1
theorem once_stopAt (w0 w : World) (B b : Nat) (hL : BytesL L) (s : Nat) (hs : s < n) (hn : n ≤ 100) (h : WS w0 w B b (onceL L n)) :
    Calls Try.prog 17 #[.pointer (some ⟨B, 0, none⟩), .agg #[.int .i64 (1 + (s : Int) % 7), .int .i64 (1 + (s : Int) / 7)]] w
      fun e w' => e = .returned (.bool true) ∧ WS w0 w' B b (leftL L n s ((0 : Nat) : Int)) ∧ w.grownBy w' (some b) := by
  have ok := once_ok hL (i := s) (by omega)
  have h1 := stop_any w0 w B b (onceL L n) (onceIt L s).o (onceIt L s).n ok.1 ok.2.1 h
  have h2 : (getL (onceIt L s).o (onceIt L s).n (onceL L n)).isSome = true := by
    unfold getL
    rw [List.find?_isSome]
    exact ⟨onceIt L s, List.mem_map.2 ⟨s, List.mem_range.2 hs, rfl⟩, decide_eq_true ⟨rfl, rfl⟩⟩
  rw [h2, once_stop hL] at h1
  exact h1

/-- What falls due at a time. -/
structure DueAt (w0 w w' : World) (B b : Nat) (L : List Int) (n s m : Nat) (A : Option Addr) (c : Nat) (D : List It) : Prop where
  own : w'.ownsRow w.heap.size 47 4 (.slice A D.length c) D.length (cellsL It.cells D)
  ws : WS w0 w' B b (leftL L n s ((m + 1 : Nat) : Int))
  gr : w.grownBy w' (some b)
  mem : ∀ (k : Nat) x, D[k]? = some x → ∃ i, i < n ∧ i ≠ s ∧ L.getD i 0 % 16 = (m : Int) ∧ x = onceIt L i
  ord : ∀ (k : Nat) x y, D[k]? = some x → D[k + 1]? = some y → ordZ (x.o, x.n) (y.o, y.n) < 0
  cnt : D.length + (leftL L n s ((m + 1 : Nat) : Int)).length = (leftL L n s (m : Int)).length
def DueAtE (w0 w : World) (B b : Nat) (L : List Int) (n s m : Nat) (e : Ending) (w' : World) : Prop := ∃ A c D, e = .returned (.slice A (List.length D) c) ∧ DueAt w0 w w' B b L n s m A c D

theorem once_dueAt (w0 w : World) (B b : Nat) (s m : Nat) (hn : n ≤ 21) (hs : (leftL L n s (m : Int)).length + 1 ≤ n) (h : WS w0 w B b (leftL L n s (m : Int))) :
    Calls Try.prog 19 #[.pointer (some ⟨B, 0, none⟩), .int .u64 (m : Int)] w (DueAtE w0 w B b L n s m) := by
  have hlen : (leftL L n s (m : Int)).length ≤ 20 := by omega
  refine (due_any w0 w B b (leftL L n s (m : Int)) (m : Int) (by omega) h (fun q hq => by have := due_le hq; omega)).mono ?_
  rintro e w' ⟨v, q, rfl, hd⟩
  have hsame := due_same hd.perm
  have ho := hd.own
  have hw := hd.ws
  rw [hsame] at ho hw
  rw [due_left hd.perm] at hw
  obtain ⟨A, c, rfl⟩ := own_slice' ho
  have hm : ((m + 1 : Nat) : Int) = (m : Int) + 1 := by omega
  refine ⟨A, c, dueL (m : Int) q, rfl, ho, by rw [hm]; exact hw, hd.gr, fun k x hx => (due_mem hd.perm).1 (List.mem_of_getElem? hx), fun k x y hx hy => due_order hd.perm hd.sorted hx hy, ?_⟩
  rw [hm]
  exact due_count hd.perm

/-- One of those that fell due, by its cells. -/
theorem DueAt.cells {w1 w2 : World} {s m : Nat} {A : Option Addr} {c base : Nat} {D : List It} (h : DueAt w0 w1 w2 B b L n s m A c D) (ho : w.ownsRow base 47 4 (.slice A D.length c) D.length (cellsL It.cells D)) {k : Nat} (hk : k < D.length) :
    ∃ g xo xn, ∃ i : Nat, A = some ⟨g, 0, none⟩ ∧ g < w.heap.size ∧ D[k]? = some ⟨xo, xn, m, i⟩ ∧ w.cell? ⟨g, k * 4, none⟩ = some (.int .i64 xo) ∧ w.cell? ⟨g, k * 4 + 1, none⟩ = some (.int .i64 xn) ∧
      w.cell? ⟨g, k * 4 + 2, none⟩ = some (.int .u64 (m : Int)) ∧ w.cell? ⟨g, k * 4 + 3, none⟩ = some (.int .i64 (i : Int)) ∧ i < n ∧ i ≠ s ∧ L.getD i 0 % 16 = (m : Int) := by
  obtain ⟨g, x, hA, _, hlt, hx, c0, c1, c2, c3⟩ := own_cells ho hk
  obtain ⟨i, h1, h2, h3, rfl⟩ := h.mem k x hx
  have h4 : (onceIt L i).at_ = (m : Int) := h3
  refine ⟨g, (onceIt L i).o, (onceIt L i).n, i, hA, hlt, ?_, c0, c1, ?_, c3, h1, h2, h3⟩
  · rw [hx, ← h3]; rfl
  · rw [c2, h4]
end

end Go.Proofs.Ytflalllbplcgbaa
