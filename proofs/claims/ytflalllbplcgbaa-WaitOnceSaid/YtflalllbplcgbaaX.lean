/-
  Chapter 18: the chapter's examples, walked.
-/
import Derived.Test.YtflalllbplcgbaaV
import Derived.Laws.StructEq
namespace Go.Proofs.Ytflalllbplcgbaa
open Go.RowKit Go.Sort Go.Maps Go.Shelf

def eqId (a b c d : Int) : Bool := a == c && b == d
theorem eq_id (a b c d : Int) (w : World) : (binOp .eql 36 (.agg #[.int .i64 a, .int .i64 b]) (.agg #[.int .i64 c, .int .i64 d])).run Try.prog w = .ok (.bool (eqId a b c d)) w := by
  have hS : Try.prog.underlying 36 = some (.struct (Try.prog.fieldsOf 36)) := by kernel_rfl
  have hp : Try.prog.stoodInHeld 36 = false := by kernel_rfl
  have u3 := Try.underlying3
  have a3 := Try.isAgg3
  have z3 := Try.sizeOf3
  rw [run_eql_struct, show (10000 : Nat) = 9999 + 1 from rfl, run_equalIn_agg w 9999 36 _ _ hS hp]
  simp only [Program.fieldsOf, Try.underlying36]
  go_simp
  unfold eqId
  by_cases h1 : a = c <;> by_cases h2 : b = d <;> simp_all
theorem guard_id (op : BinOp) (o1 o2 : Operand) (xs ys : Array Value) (w : World) : (eqGuard op 36 o1 o2 (.agg xs) (.agg ys)).run Try.prog w = .ok () w :=
  run_eqGuard_agg w op 36 o1 o2 xs ys (by kernel_rfl)

def exA : It := ⟨1, 1, 5, 0⟩
def exB : It := ⟨2, 1, 5, 2⟩

theorem perm_two {α : Type} {s : List α} {p q : α} (h : s.Perm [p, q]) : s = [p, q] ∨ s = [q, p] := by
  have hl := h.length_eq
  rcases s with _ | ⟨u, _ | ⟨v, _ | ⟨x, r⟩⟩⟩ <;> simp at hl
  have hu : u ∈ [p, q] := h.mem_iff.1 List.mem_cons_self
  simp only [List.mem_cons, List.not_mem_nil, or_false] at hu
  rcases hu with rfl | rfl
  · have := List.Perm.cons_inv h
    rw [List.perm_singleton] at this
    exact .inl (by rw [this])
  · have := List.Perm.cons_inv (h.trans (List.Perm.swap u p []))
    rw [List.perm_singleton] at this
    exact .inr (by rw [this])

theorem ins_same {α : Type} [Inhabited α] (lt : α → α → Bool) (a b : Nat) : ∀ (n i : Nat) (d : Array α), (∀ x y, x < d.size → y < d.size → lt d[x]! d[y]! = false) → b ≤ d.size → b - i = n → insOuter lt a b i d = d
  | 0, i, d, _, _, h => insOuter_stop _ _ _ _ _ (by omega)
  | n + 1, i, d, hlt, hb, h => by rw [insOuter_go _ _ _ _ _ (by omega), insInner_stop _ _ _ _ (.inr (hlt i (i - 1) (by omega) (by omega))), ins_same lt a b n (i + 1) d hlt hb (by omega)]
/-- All of one time: as they stood. -/
theorem byAt_same {l : List It} {t : Int} (h : ∀ x ∈ l, x.at_ = t) : byAt l = l := by
  unfold byAt
  have : insertionSort (ltOf atZ) l.toArray 0 l.length = l.toArray := by
    refine ins_same _ _ _ _ _ _ (fun x y hx hy => ?_) (by simp) rfl
    have hx' : x < l.length := by simpa using hx
    have hy' : y < l.length := by simpa using hy
    rw [getElem!_pos l.toArray x hx, getElem!_pos l.toArray y hy]
    simp only [List.getElem_toArray, ltOf, atZ, decide_eq_false_iff_not, cmpZ_neg]
    rw [h _ (List.getElem_mem hx'), h _ (List.getElem_mem hy')]
    omega
  rw [this]

theorem ex_sorted {s : List It} (hp : s.Perm [exB, exA]) (hs : SortedIds s) : s = [exA, exB] := by
  rcases perm_two hp with rfl | rfl
  · simp [SortedIds, exA, exB] at hs
  · rfl

theorem ex_fits1 : Fits 1 := by unfold Fits; omega
theorem ex_fits2 : Fits 2 := by unfold Fits; omega
theorem exA_ok : exA.Ok := ⟨ex_fits1, ex_fits1, by simp [exA], by simp [Fits, exA]⟩
theorem exB_ok : exB.Ok := ⟨ex_fits2, ex_fits1, by simp [exB], by simp [Fits, exB]⟩

theorem ex_rank1 (W : World) : Calls Try.prog 13 #[.int .i64 3, .int .i64 1, .int .i64 3] W fun e w' => e = .returned (.int .i64 1) ∧ Gr W w' := rank_any 3 1 3 W
theorem ex_rank0 (W : World) : Calls Try.prog 13 #[.int .i64 3, .int .i64 4, .int .i64 1] W fun e w' => e = .returned (.int .i64 0) ∧ Gr W w' := rank_any 3 4 1 W
theorem ex_delay (W : World) : Calls Try.prog 15 #[.int .i64 3, .int .i64 1, .int .i64 3, .int .i64 1, .int .u64 10, .int .u64 7] W fun e w' => e = .returned (.int .u64 47) ∧ Gr W w' := delay_any 3 1 3 1 10 7 W (by omega)
theorem ex_next : nextI 0 = 1442695040888963407 := by decide +kernel

theorem set_b (w0 w : World) (B b : Nat) (h : WS w0 w B b []) :
    Calls Try.prog 21 #[.pointer (some ⟨B, 0, none⟩), .agg #[.int .i64 2, .int .i64 1], .int .u64 5, .int .i64 2] w fun e w' => e = .returned (.bool true) ∧ WS w0 w' B b [exB] ∧ w.grownBy w' (some b) :=
  set_any w0 w B b [] exB exB_ok h
theorem set_a (w0 w : World) (B b : Nat) (h : WS w0 w B b [exB]) :
    Calls Try.prog 21 #[.pointer (some ⟨B, 0, none⟩), .agg #[.int .i64 1, .int .i64 1], .int .u64 5, .int .i64 0] w fun e w' => e = .returned (.bool true) ∧ WS w0 w' B b [exB, exA] ∧ w.grownBy w' (some b) :=
  set_any w0 w B b [exB] exA exA_ok h
theorem set_z (w0 w : World) (B b : Nat) (h : WS w0 w B b [exB, exA]) :
    Calls Try.prog 21 #[.pointer (some ⟨B, 0, none⟩), .agg #[.int .i64 0, .int .i64 0], .int .u64 5, .int .i64 0] w fun e w' => e = .returned (.bool false) ∧ WS w0 w' B b [exB, exA] ∧ w.grownBy w' (some b) :=
  set_any w0 w B b [exB, exA] ⟨0, 0, 5, 0⟩ ⟨by simp [Fits], by simp [Fits], by simp, by simp [Fits]⟩ h
theorem of_b (w0 w : World) (B b : Nat) (h : WS w0 w B b [exB, exA]) :
    Calls Try.prog 24 #[.pointer (some ⟨B, 0, none⟩), .agg #[.int .i64 2, .int .i64 1]] w
      fun e w' => e = .returned (.tuple #[.agg #[.int .i64 2, .int .i64 1, .int .u64 5, .int .i64 2], .bool true]) ∧ Below w.heap.size w w' :=
  of_any w0 w B b [exB, exA] 2 1 ex_fits2 ex_fits1 h
theorem stop_a (w0 w : World) (B b : Nat) (h : WS w0 w B b []) :
    Calls Try.prog 17 #[.pointer (some ⟨B, 0, none⟩), .agg #[.int .i64 1, .int .i64 1]] w fun e w' => e = .returned (.bool false) ∧ WS w0 w' B b [] ∧ w.grownBy w' (some b) :=
  stop_any w0 w B b [] 1 1 ex_fits1 ex_fits1 h

theorem due_4 (w0 w : World) (B b : Nat) (h : WS w0 w B b [exB, exA]) :
    Calls Try.prog 19 #[.pointer (some ⟨B, 0, none⟩), .int .u64 4] w fun e w' => ∃ v, e = .returned v ∧ w'.ownsRow w.heap.size 47 4 v 0 [] ∧ WS w0 w' B b [exB, exA] ∧ w.grownBy w' (some b) := by
  refine (due_any w0 w B b [exB, exA] 4 (by simp) h (fun s hs => ?_)).mono ?_
  · have := hs.length_eq
    have h2 := List.length_filter_le (fun x => !lateB 4 x) s
    simp at this
    unfold dueL
    omega
  · rintro e w' ⟨v, s, rfl, hd⟩
    have hs : dueL 4 s = [] := by
      rw [ex_sorted hd.perm hd.sorted]
      rfl
    have he : byAt ([] : List It) = [] := byAt_same (t := 0) (by simp)
    have h1 := hd.own
    have h2 := hd.ws
    rw [hs, he] at h1 h2
    exact ⟨v, rfl, h1, h2, hd.gr⟩
theorem due_5 (w0 w : World) (B b : Nat) (h : WS w0 w B b [exB, exA]) :
    Calls Try.prog 19 #[.pointer (some ⟨B, 0, none⟩), .int .u64 5] w fun e w' => ∃ v, e = .returned v ∧ w'.ownsRow w.heap.size 47 4 v 2 (cellsL It.cells [exA, exB]) ∧ WS w0 w' B b [] ∧ w.grownBy w' (some b) := by
  refine (due_any w0 w B b [exB, exA] 5 (by simp) h (fun s hs => ?_)).mono ?_
  · have := hs.length_eq
    have h2 := List.length_filter_le (fun x => !lateB 5 x) s
    simp at this
    unfold dueL
    omega
  · rintro e w' ⟨v, s, rfl, hd⟩
    have hs : dueL 5 s = [exA, exB] := by
      rw [ex_sorted hd.perm hd.sorted]
      rfl
    have he : byAt [exA, exB] = [exA, exB] := byAt_same (t := 5) (by simp [exA, exB])
    have h1 := hd.own
    have h2 := hd.ws
    rw [hs, he] at h1 h2
    exact ⟨v, rfl, h1, h2, hd.gr⟩

end Go.Proofs.Ytflalllbplcgbaa
