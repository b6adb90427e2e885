/-
  Chapter 05: the stable sort of at most 20, as Order calls it.
-/
import Derived.Test.YteciaffioiiceabD
import Derived.Test.YteciaffioiiceabLI
namespace Go.Proofs.Yteciaffioiiceab
open Go.RowKit Go.Sort Go.Lib Go.Shelf

section
variable {α : Type} [Inhabited α] {enc : α → Value} {w : World} {blk off : Nat} {d : Array α}
theorem heap_putRow (i : Nat) (h : i ≠ blk) : (putRow enc w blk off d).heap[i]? = w.heap[i]? := by
  simp [putRow, mapBlock, Array.getElem?_modify, Ne.symm h]
theorem size_putRow' : (putRow enc w blk off d).heap.size = w.heap.size := by simp [putRow, mapBlock]
theorem below_putRow {B : Nat} (w0 : World) (h : Below B w0 w) (hB : B ≤ blk) : Below B w0 (putRow enc w blk off d) :=
  ⟨h.os, h.tape, h.output, by rw [size_putRow']; exact h.size, fun i hi => (heap_putRow i (by omega)).trans (h.block i hi)⟩
theorem holds_drewN (h : Holds enc w blk off d) (q : Nat) : Holds enc (w.drewN q) blk off d := h
end

theorem putRow_putRow' {α : Type} [Inhabited α] (enc : α → Value) (w : World) (blk : Nat) (d : Array α) (q : Nat) : putRow enc ((putRow enc w blk 0 d).drewN q) blk 0 d = (putRow enc w blk 0 d).drewN q := by
  rw [show putRow enc ((putRow enc w blk 0 d).drewN q) blk 0 d = (putRow enc (putRow enc w blk 0 d) blk 0 d).drewN q from rfl, putRow_putRow _ _ _ _ _ _ rfl]

abbrev ltF {α : Type} (f : α → Int) : α → α → Bool := ltOf fun x y => cmpZ (f x) (f y)

theorem ins_end {α : Type} [Inhabited α] (lt : α → α → Bool) (d : Array α) (n : Nat) : insertionSort lt d n n = d := by
  unfold insertionSort
  exact insOuter_stop _ _ _ _ _ (by omega)

theorem insInner_size' {α : Type} [Inhabited α] (lt : α → α → Bool) (a : Nat) : ∀ (j : Nat) (d : Array α), (insInner lt a j d).size = d.size
  | 0, d => rfl
  | j + 1, d => by
    rw [insInner]
    split
    · rw [insInner_size' lt a j]; simp [swp]
    · rfl
theorem insOuter_size' {α : Type} [Inhabited α] (lt : α → α → Bool) (a b : Nat) : ∀ (n i : Nat) (d : Array α), b - i = n → (insOuter lt a b i d).size = d.size
  | 0, i, d, h => by rw [insOuter_stop _ _ _ _ _ (by omega)]
  | n + 1, i, d, h => by rw [insOuter_go _ _ _ _ _ (by omega), insOuter_size' lt a b n (i + 1) _ (by omega), insInner_size']
theorem insertionSort_size {α : Type} [Inhabited α] (lt : α → α → Bool) (d : Array α) (a b : Nat) : (insertionSort lt d a b).size = d.size := insOuter_size' lt a b _ _ d rfl

/-- What the closure asks of memory, at the world in which the sort begins. -/
structure Asks (w : World) (gf gl ab len c blk : Nat) (F : Nat × Nat) (P : Nat → Nat × Nat) : Prop where
  h0 : w.cell? ⟨gf, 0, none⟩ = some (.complex .f64 F.1 F.2)
  h1 : w.cell? ⟨gl, 0, none⟩ = some (.slice (some ⟨ab, 0, none⟩) len c)
  hp : ∀ x, x < len → w.cell? ⟨ab, x, none⟩ = some (.complex .f64 (P x).1 (P x).2)
  far : ∀ x, x < len → FarOk F.1 F.2 (P x).1 (P x).2
  nf : gf ≠ blk
  nl : gl ≠ blk
  nb : ab ≠ blk
  lf : gf < w.heap.size
  ll : gl < w.heap.size
  lb : ab < w.heap.size

def encF {len : Nat} (x : Fin len) : Value := .int .i64 (x.val : Int)
def farF (F : Nat × Nat) (P : Nat → Nat × Nat) {len : Nat} (x : Fin len) : Int := farI F.1 F.2 (P x.val).1 (P x.val).2

section
variable {len : Nat} [Inhabited (Fin len)] {gf gl ab c blk : Nat} {F : Nat × Nat} {P : Nat → Nat × Nat}

theorem Asks.put {w : World} (h : Asks w gf gl ab len c blk F P) (d : Array (Fin len)) (q : Nat) : Asks ((putRow encF w blk 0 d).drewN q) gf gl ab len c blk F P where
  h0 := (cell?_putRow_other encF w blk 0 d _ (.inl h.nf)).trans h.h0
  h1 := (cell?_putRow_other encF w blk 0 d _ (.inl h.nl)).trans h.h1
  hp x hx := (cell?_putRow_other encF w blk 0 d _ (.inl h.nb)).trans (h.hp x hx)
  far := h.far
  nf := h.nf
  nl := h.nl
  nb := h.nb
  lf := by rw [show ((putRow encF w blk 0 d).drewN q).heap.size = (putRow encF w blk 0 d).heap.size from rfl, size_putRow']; exact h.lf
  ll := by rw [show ((putRow encF w blk 0 d).drewN q).heap.size = (putRow encF w blk 0 d).heap.size from rfl, size_putRow']; exact h.ll
  lb := by rw [show ((putRow encF w blk 0 d).drewN q).heap.size = (putRow encF w blk 0 d).heap.size from rfl, size_putRow']; exact h.lb

theorem Asks.reads {w : World} (h : Asks w gf gl ab len c blk F P) (size : Nat) :
    CmpReads Try.prog 12 #[.pointer (some ⟨gf, 0, none⟩), .pointer (some ⟨gl, 0, none⟩)] (encF (len := len)) (fun x y => cmpZ (farF F P x) (farF F P y)) blk 0 size w := by
  intro m os dk _ x y
  have cell : ∀ (b o : Nat), b ≠ blk → b < w.heap.size → (sortWorld encF w blk 0 m dk os).cell? ⟨b, o, none⟩ = w.cell? ⟨b, o, none⟩ := fun b o hne hlt => by
    unfold sortWorld
    rw [cell?_grow _ _ _ (by rw [size_putRow']; exact hlt), cell?_putRow_other _ _ _ _ _ _ (.inl hne)]
    rfl
  exact closure_any gf gl ab len c x.val y.val F.1 F.2 (P x.val).1 (P x.val).2 (P y.val).1 (P y.val).2 _ (by rw [cell _ _ h.nf h.lf]; exact h.h0) (by rw [cell _ _ h.nl h.ll]; exact h.h1) x.isLt y.isLt
    (by rw [cell _ _ h.nb h.lb]; exact h.hp _ x.isLt) (by rw [cell _ _ h.nb h.lb]; exact h.hp _ y.isLt) (h.far _ x.isLt) (h.far _ y.isLt)

theorem closure_enters (args : Array Value) (w : World) : (callFunc 12 args).run Try.prog w = .ok (.enter 12 args) w :=
  enters_of Try.func12 (by kernel_rfl) rfl args w

theorem ins_any (cap a b : Nat) (d : Array (Fin len)) (w : World) (h : Asks w gf gl ab len c blk F P) (hH : Holds encF w blk 0 d) (hab : a ≤ b) (hb : b ≤ d.size) (h20 : d.size ≤ 20) :
    Calls Try.prog 18 #[.slice (some ⟨blk, 0, none⟩) d.size cap, .int .i64 a, .int .i64 b, .func (.func 12) #[] #[.pointer (some ⟨gf, 0, none⟩), .pointer (some ⟨gl, 0, none⟩)]] w
      fun e w' => e = .returned (.tuple #[]) ∧ ∃ n, w' = (putRow encF w blk 0 (insertionSort (ltF (farF F P)) d a b)).drewN n :=
  Any.insertionSortCmpFunc_one lay_ins encF (fun _ => rfl) _ 12 _ blk 0 cap a b d w closure_enters (h.reads d.size) hH hab hb (by omega)

set_option maxHeartbeats 1000000 in
theorem stable_any (cap : Nat) (d : Array (Fin len)) (w : World) (h : Asks w gf gl ab len c blk F P) (hH : Holds encF w blk 0 d) (h20 : d.size ≤ 20) :
    Calls Try.prog 15 #[.slice (some ⟨blk, 0, none⟩) d.size cap, .int .i64 d.size, .func (.func 12) #[] #[.pointer (some ⟨gf, 0, none⟩), .pointer (some ⟨gl, 0, none⟩)]] w
      fun e w' => e = .returned (.tuple #[]) ∧ ∃ n, w' = (putRow encF w blk 0 (insertionSort (ltF (farF F P)) d 0 d.size)).drewN n := by
  obtain ⟨N, hN⟩ : ∃ N, d.size = N := ⟨_, rfl⟩
  obtain ⟨r, hr⟩ : ∃ r, insertionSort (ltF (farF F P)) d 0 N = r := ⟨_, rfl⟩
  obtain ⟨fv, hfv⟩ : ∃ fv, Value.func (.func 12) #[] #[.pointer (some ⟨gf, 0, none⟩), .pointer (some ⟨gl, 0, none⟩)] = fv := ⟨_, rfl⟩
  have hrs : r.size = N := by rw [← hr, insertionSort_size, hN]
  rcases Nat.lt_or_ge N 20 with hlt | hge
  · have c1 := ins_any cap 0 N d w h hH (by omega) (by omega) h20
    rw [hN, hr, hfv] at c1
    rw [hN, hr, hfv]
    have C1 := hide c1
    have k1 : ¬ (20 : Int) ≤ N := by omega
    have k2 : ¬ (20 : Int) < N := by omega
    clear c1 hr hfv h hH hrs hN
    go_enter Try.func15, Try.ntmps15
    go_wp2_with fail
    refine wp_loop_rounds 1 ?_
    rw [rounds_succ]
    go_wp2_with fail
    refine C1.out.mono ?_
    rintro e w' ⟨rfl, n, rfl⟩
    go_wp2_with fail
    refine wp_loop_rounds 1 ?_
    rw [rounds_succ]
    go_wp2_with fail
    go_end0
    exact ⟨rfl, n, rfl⟩
  · obtain rfl : N = 20 := by omega
    have c1 := ins_any cap 0 20 d w h hH (by omega) (by omega) h20
    rw [hN, hr, hfv] at c1
    have c2 : ∀ q, Calls Try.prog 18 #[.slice (some ⟨blk, 0, none⟩) 20 cap, .int .i64 20, .int .i64 20, fv] ((putRow encF w blk 0 r).drewN q)
        fun e w' => e = .returned (.tuple #[]) ∧ ∃ n, w' = (putRow encF w blk 0 r).drewN n := fun q => by
      have := ins_any cap 20 20 r _ (h.put r q) (holds_drewN (holds_putRow encF w blk 0 d r hH (hrs.trans hN.symm)) q) (by omega) (by omega) (by omega)
      rw [hrs, hfv, ins_end, putRow_putRow'] at this
      exact this.mono fun _ _ ⟨h, n, k⟩ => ⟨h, q + n, by rw [k, World.drewN_drewN]⟩
    rw [hN, hr, hfv]
    have C1 := hide c1
    have C2 := hide c2
    clear c1 c2 hr hfv h hH hrs hN
    go_enter Try.func15, Try.ntmps15
    go_wp2_with fail
    refine wp_loop_rounds 2 ?_
    rw [rounds_succ]
    go_wp2_with fail
    refine C1.out.mono ?_
    rintro e w' ⟨rfl, n, rfl⟩
    go_wp2_with fail
    rw [rounds_succ]
    go_wp2_with fail
    refine (C2.out _).mono ?_
    rintro e w' ⟨rfl, n2, rfl⟩
    go_wp2_with fail
    refine wp_loop_rounds 1 ?_
    rw [rounds_succ]
    go_wp2_with fail
    go_end0
    exact ⟨rfl, n2, rfl⟩

set_option maxHeartbeats 400000 in
theorem sort_any (cap : Nat) (d : Array (Fin len)) (w : World) (h : Asks w gf gl ab len c blk F P) (hH : Holds encF w blk 0 d) (h20 : d.size ≤ 20) :
    Calls Try.prog 11 #[.slice (some ⟨blk, 0, none⟩) d.size cap, .func (.func 12) #[] #[.pointer (some ⟨gf, 0, none⟩), .pointer (some ⟨gl, 0, none⟩)]] w
      fun e w' => e = .returned (.tuple #[]) ∧ ∃ n, w' = (putRow encF w blk 0 (insertionSort (ltF (farF F P)) d 0 d.size)).drewN n := by
  have c1 := stable_any cap d w h hH h20
  generalize insertionSort (ltF (farF F P)) d 0 d.size = r at c1 ⊢
  generalize Value.func (.func 12) #[] #[.pointer (some ⟨gf, 0, none⟩), .pointer (some ⟨gl, 0, none⟩)] = fv at c1 ⊢
  generalize d.size = N at c1 h20 ⊢
  have C1 := hide c1
  clear c1 h hH
  go_enter Try.func11, Try.ntmps11
  go_wp2_with fail
  refine C1.out.mono ?_
  rintro e w' ⟨rfl, n, rfl⟩
  go_wp2_with fail
  go_end0
  exact ⟨rfl, n, rfl⟩
end

end Go.Proofs.Yteciaffioiiceab
