/-
  Chapter 21: a bag beside the blocks that are kept, from the world in which a statement began; each deed on it.
-/
import Derived.Test.YtioehmlaaimeaaaW9
namespace Go.Proofs.Ytioehmlaaimeaaa
open Go.RowKit

abbrev Kept := Nat × TypeId × Array Value
structure BW (T E : TypeId) (w0 w : World) (b : Nat) (l : List It) (room : Int) (K : List Kept) : Prop where
  bel : Below w0.heap.size w0 w
  bag : ∃ v, BagIs T E w w0.heap.size b v l room ∧ ∀ q ∈ K, Blk w q.1 q.2.1 q.2.2 ∧ q.1 ≠ b ∧ v.ownBlock ≠ some q.1

section
variable {T E : TypeId} {w0 w w' : World} {b : Nat} {l l' : List It} {room : Int} {K : List Kept}
theorem BW.kept (h : BW T E w0 w b l room K) {g : Nat} {t : TypeId} {cs : Array Value} (hq : (g, t, cs) ∈ K) : Blk w g t cs := by
  obtain ⟨v, _, hk⟩ := h.bag
  exact (hk _ hq).1
theorem BW.lt (h : BW T E w0 w b l room K) : b < w.heap.size := by
  obtain ⟨v, hv, _⟩ := h.bag
  exact hv.lt
theorem BW.ge (h : BW T E w0 w b l room K) : w0.heap.size ≤ b := by
  obtain ⟨v, hv, _⟩ := h.bag
  exact hv.gb
theorem BW.lr (h : BW T E w0 w b l room K) : (l.length : Int) ≤ room ∧ room ≤ 512 := by
  obtain ⟨v, hv, _⟩ := h.bag
  exact ⟨hv.lr, hv.r2⟩
theorem BW.sz (h : BW T E w0 w b l room K) : w0.heap.size ≤ w.heap.size := h.bel.size
theorem BW.below (h : BW T E w0 w b l room K) (hb : Below w.heap.size w w') : BW T E w0 w' b l room K := by
  obtain ⟨v, hv, hk⟩ := h.bag
  exact ⟨h.bel.trans (hb.mono h.bel.size), v, hv.below hb, fun q hq => ⟨(hk q hq).1.below hb (hk q hq).1.lt, (hk q hq).2⟩⟩
theorem BW.alloc (h : BW T E w0 w b l room K) (o : Obj) : BW T E w0 (w.alloc o) b l room K := h.below ((Below.refl _ _).alloc (Nat.le_refl _) o)
theorem BW.drewN (h : BW T E w0 w b l room K) (n : Nat) : BW T E w0 (w.drewN n) b l room K := h.below (below_drewN (Below.refl _ _) n)
theorem BW.drew (h : BW T E w0 w b l room K) : BW T E w0 w.drew b l room K := h.drewN 1
theorem BW.push (h : BW T E w0 w b l room K) (cs : Array Value) (t : TypeId) : BW T E w0 (w.alloc (.cells cs t)) b l room ((w.heap.size, t, cs) :: K) := by
  obtain ⟨v, hv, hk⟩ := h.bag
  refine ⟨(h.alloc _).bel, v, hv.alloc _, fun q hq => ?_⟩
  rcases List.mem_cons.1 hq with rfl | hq
  · exact ⟨Blk.new w t cs, by have := hv.lt; simp; omega, fun e => by have := (hv.own_ge _ e).2; simp at this⟩
  · exact ⟨(hk q hq).1.alloc _, (hk q hq).2⟩
theorem BW.set (h : BW T E w0 w b l room K) {g : Nat} {t : TypeId} {cs : Array Value} (hq : (g, t, cs) ∈ K) (hd : ∀ q ∈ K, q.1 = g → q = (g, t, cs)) (hg : w0.heap.size ≤ g) (i : Nat) (u : Value) :
    BW T E w0 (w.setCell ⟨g, i, none⟩ u) b l room (K.map fun q => if q.1 = g then (g, t, cs.setIfInBounds i u) else q) := by
  obtain ⟨v, hv, hk⟩ := h.bag
  have h1 := hk _ hq
  refine ⟨h.bel.setCell hg u, v, hv.setFar (fun e => h1.2.1 e.symm) h1.2.2 u, fun q hq' => ?_⟩
  obtain ⟨r, hr, rfl⟩ := List.mem_map.1 hq'
  by_cases e : r.1 = g
  · rw [if_pos e]
    have := hd r hr e
    exact ⟨h1.1.set_ i u, h1.2⟩
  · rw [if_neg e]
    exact ⟨(hk r hr).1.far e u, (hk r hr).2⟩
theorem BW.more (h : BW T E w0 w b l room K) (hb : Below w.heap.size w w') {g : Nat} {t : TypeId} {cs : Array Value} (k : Blk w' g t cs) (hg : w.heap.size ≤ g) : BW T E w0 w' b l room ((g, t, cs) :: K) := by
  obtain ⟨v, hv, hk⟩ := h.bag
  refine ⟨h.bel.trans (hb.mono h.bel.size), v, hv.below hb, fun q hq => ?_⟩
  rcases List.mem_cons.1 hq with rfl | hq
  · exact ⟨k, by have := hv.lt; simp; omega, fun e => by have := (hv.own_ge _ e).2; simp at this; omega⟩
  · exact ⟨(hk q hq).1.below hb (hk q hq).1.lt, (hk q hq).2⟩
theorem BW.less (h : BW T E w0 w b l room K) {K' : List Kept} (hs : ∀ q ∈ K', q ∈ K) : BW T E w0 w b l room K' := by
  obtain ⟨v, hv, hk⟩ := h.bag
  exact ⟨h.bel, v, hv, fun q hq => hk q (hs q hq)⟩

theorem BW.op {P : Program} {f : FuncId} {args : Array Value} {r : Ending} (h : BW T E w0 w b l room K)
    (hop : ∀ v, BagIs T E w w0.heap.size b v l room → Calls P f args w fun e w' => e = r ∧ ∃ v', BagIs T E w' w0.heap.size b v' l' room ∧ Ap w w' b v ∧ Nw w v v') :
    Calls P f args w fun e w' => e = r ∧ BW T E w0 w' b l' room K := by
  obtain ⟨v, hv, hk⟩ := h.bag
  refine (hop v hv).mono ?_
  rintro e w' ⟨rfl, v', hv', ha, hn⟩
  refine ⟨rfl, h.bel.trans (ha.below h.bel.size hv.gb fun g hg => (hv.own_ge g hg).1), v', hv', fun q hq => ⟨ha.blk (hk q hq).1 (hk q hq).2.1 (hk q hq).2.2, (hk q hq).2.1, fun e => ?_⟩⟩
  rcases hn _ e with h1 | h1
  · exact (hk q hq).2.2 h1
  · have := (hk q hq).1.lt
    omega
end

section
variable {w0 w : World} {b : Nat} {l l' : List It} {room : Int} {K : List Kept}
abbrev BB := BW 66 33
abbrev BR := BW 54 38

theorem bw_new (n : Int) (w0 w : World) (hb : Below w0.heap.size w0 w) (h1 : 1 ≤ n) (h2 : n ≤ 512) :
    Calls Try.prog 8 #[.int .i64 n] w fun e w' => ∃ b, e = .returned (.tuple #[.pointer (some ⟨b, 0, none⟩), .int .i64 0]) ∧ BB w0 w' b [] n [] := by
  refine (new_ok n w h1 h2).mono ?_
  rintro e w' ⟨rfl, h, hb'⟩
  refine ⟨_, rfl, hb.trans (hb'.mono hb.size), .slice none 0 0, ⟨h.blk, World.ownsRow_nil _ _ _ _, hb.size, h.lr, h.r1, h.r2⟩, fun q hq => by cases hq⟩
theorem br_new (n : Int) (w0 w : World) (hb : Below w0.heap.size w0 w) (h1 : 1 ≤ n) (h2 : n ≤ 512) :
    Calls Try.prog 9 #[.int .i64 n] w fun e w' => ∃ b, e = .returned (.pointer (some ⟨b, 0, none⟩)) ∧ BR w0 w' b [] n [] := by
  refine (rnew_ok n w h1 h2).mono ?_
  rintro e w' ⟨rfl, h, hb'⟩
  refine ⟨_, rfl, hb.trans (hb'.mono hb.size), .slice none 0 0, ⟨h.blk, World.ownsRow_nil _ _ _ _, hb.size, h.lr, h.r1, h.r2⟩, fun q hq => by cases hq⟩

theorem bw_put (x : It) (h : BB w0 w b l room K) {e : Int} (he : putE l room x = e) (hl : putL l room x = l') :
    Calls Try.prog 17 #[.pointer (some ⟨b, 0, none⟩), x.val] w fun e' w' => e' = .returned (.int .i64 e) ∧ BB w0 w' b l' room K := by
  subst he hl
  exact h.op fun v hv => put_any _ b v l room x w hv h.sz
theorem br_put (x : It) (h : BR w0 w b l room K) {e : Int} (he : putE l room x = e) (hl : putL l room x = l') :
    Calls Try.prog 19 #[.pointer (some ⟨b, 0, none⟩), x.val] w fun e' w' => e' = .returned (.int .i64 e) ∧ BR w0 w' b l' room K := by
  subst he hl
  exact h.op fun v hv => rput_any _ b v l room x w hv h.sz
theorem bw_take (p : Int) (h : BB w0 w b l room K) {x : It} {e : Int} (hx : takeX l p = x) (he : pickE l p = e) (hl : takeL l p = l') :
    Calls Try.prog 10 #[.pointer (some ⟨b, 0, none⟩), .int .i64 p] w fun e' w' => e' = .returned (.tuple #[x.val, .int .i64 e]) ∧ BB w0 w' b l' room K := by
  subst he hl hx
  exact h.op fun v hv => take_any _ b v l room p w hv
theorem br_take (p : Int) (h : BR w0 w b l room K) {x : It} {e : Int} (hx : takeX l p = x) (he : pickE l p = e) (hl : takeL l p = l') :
    Calls Try.prog 11 #[.pointer (some ⟨b, 0, none⟩), .int .i64 p] w fun e' w' => e' = .returned (.tuple #[x.val, .int .i64 e]) ∧ BR w0 w' b l' room K := by
  subst he hl hx
  exact h.op fun v hv => rtake_any _ b v l room p w hv
theorem bw_copy (p : Int) (h : BB w0 w b l room K) {e : Int} (he : copyE l room p = e) (hl : copyL l room p = l') :
    Calls Try.prog 13 #[.pointer (some ⟨b, 0, none⟩), .int .i64 p] w fun e' w' => e' = .returned (.int .i64 e) ∧ BB w0 w' b l' room K := by
  subst he hl
  exact h.op fun v hv => copy_any _ b v l room p w hv h.sz
theorem br_copy (p : Int) (h : BR w0 w b l room K) {e : Int} (he : copyE l room p = e) (hl : copyL l room p = l') :
    Calls Try.prog 14 #[.pointer (some ⟨b, 0, none⟩), .int .i64 p] w fun e' w' => e' = .returned (.int .i64 e) ∧ BR w0 w' b l' room K := by
  subst he hl
  exact h.op fun v hv => rcopy_any _ b v l room p w hv h.sz
theorem bw_last (p : Int) (h : BB w0 w b l room K) {e : Int} (he : pickE l p = e) (hl : lastL l p = l') :
    Calls Try.prog 15 #[.pointer (some ⟨b, 0, none⟩), .int .i64 p] w fun e' w' => e' = .returned (.int .i64 e) ∧ BB w0 w' b l' room K := by
  subst he hl
  exact h.op fun v hv => last_any _ b v l room p w hv h.sz
theorem br_last (p : Int) (h : BR w0 w b l room K) {e : Int} (he : pickE l p = e) (hl : lastL l p = l') :
    Calls Try.prog 16 #[.pointer (some ⟨b, 0, none⟩), .int .i64 p] w fun e' w' => e' = .returned (.int .i64 e) ∧ BR w0 w' b l' room K := by
  subst he hl
  exact h.op fun v hv => rlast_any _ b v l room p w hv h.sz
theorem bw_oldest (h : BB w0 w b l room K) {x : It} {ok : Bool} (hx : oldR l = (x, ok)) :
    Calls Try.prog 20 #[.pointer (some ⟨b, 0, none⟩)] w fun e' w' => e' = .returned (.tuple #[x.val, .bool ok]) ∧ BB w0 w' b l room K := by
  obtain ⟨v, hv, _⟩ := h.bag
  have := oldest_any _ b v l room w hv
  rw [hx] at this
  exact this.mono fun e w' ⟨he, hb⟩ => ⟨he, h.below hb⟩
theorem br_oldest (h : BR w0 w b l room K) {x : It} {ok : Bool} (hx : oldR l = (x, ok)) :
    Calls Try.prog 21 #[.pointer (some ⟨b, 0, none⟩)] w fun e' w' => e' = .returned (.tuple #[x.val, .bool ok]) ∧ BR w0 w' b l room K := by
  obtain ⟨v, hv, _⟩ := h.bag
  have := roldest_any _ b v l room w hv
  rw [hx] at this
  exact this.mono fun e w' ⟨he, hb⟩ => ⟨he, h.below hb⟩
theorem bw_len (h : BB w0 w b l room K) : Calls Try.prog 22 #[.pointer (some ⟨b, 0, none⟩)] w fun e w' => e = .returned (.int .i64 l.length) ∧ w = w' := by
  obtain ⟨v, hv, _⟩ := h.bag
  exact len_any _ b v l room w hv
theorem bw_items (h : BB w0 w b l room K) : Calls Try.prog 23 #[.pointer (some ⟨b, 0, none⟩)] w fun e w' => ∃ A c, e = .returned (.slice A l.length c) ∧ w'.ownsRow w.heap.size 33 4 (.slice A l.length c) l.length (cellsOf l) ∧ BB w0 w' b l room K := by
  obtain ⟨v, hv, _⟩ := h.bag
  refine (items_any _ b v l room w hv).mono ?_
  rintro e w' ⟨v', rfl, ho, hb⟩
  obtain ⟨A, c, rfl⟩ := own_slice ho
  exact ⟨A, c, rfl, ho, h.below hb⟩
/-- The item at a place of an owned row. -/
theorem own_item {E : TypeId} {base c : Nat} {A : Option Addr} (h : w.ownsRow base E 4 (.slice A l.length c) l.length (cellsOf l)) {k : Nat} (hk : k < l.length) :
    ∃ g, A = some ⟨g, 0, none⟩ ∧ base ≤ g ∧ g < w.heap.size ∧ w.cell? ⟨g, k * 4, none⟩ = some (.int .i64 (itAt l k).fr) ∧ w.cell? ⟨g, k * 4 + 1, none⟩ = some (.int .i64 (itAt l k).to) ∧ w.cell? ⟨g, k * 4 + 2, none⟩ = some (.string (itAt l k).by_) ∧ w.cell? ⟨g, k * 4 + 3, none⟩ = some (.int .u64 (itAt l k).at_) := by
  rcases h.2 with ⟨_, h0⟩ | ⟨g, cap, cur, hv, hb, hg, _⟩
  · omega
  · injection hv with h1 _ h3
    subst h1 h3
    have hlt : g < w.heap.size := (h.lt g rfl).2
    have hc : ∀ j, j < 4 → w.cell? ⟨g, k * 4 + j, none⟩ = (itAt l k).cells[j]? := fun j hj => by rw [h.cellAt _ (by omega), cellsOf_at l k j hk hj]
    exact ⟨g, rfl, hb, hlt, hc 0 (by omega), hc 1 (by omega), hc 2 (by omega), hc 3 (by omega)⟩
end

end Go.Proofs.Ytioehmlaaimeaaa
