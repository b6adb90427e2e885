/-
  Chapter 19: the program's struct and the document's side by side: each deed leaves both in one state.
-/
import Derived.Test.YtonjpdidbgicgaaW9
import Derived.Test.YtonjpdidbgicgaaW7
import Derived.Test.YtonjpdidbgicgaaW8
import Derived.Deep.DeepCutAuto
namespace Go.Proofs.Ytonjpdidbgicgaa
open Go.RowKit

/-- The two structs of the call's own, in one state. -/
structure Two (w0 w : World) (b x : Nat) (s : BSt) : Prop where
  bel : Below w0.heap.size w0 w
  bt : IsBeat w b s
  rf : IsRef w x s
  ok : s.Ok
  gb : w0.heap.size ≤ b
  gx : w0.heap.size ≤ x
  ne : b ≠ x

section
variable {w0 w w' : World} {b x : Nat} {s s' : BSt}
theorem Two.drewN (h : Two w0 w b x s) (n : Nat) : Two w0 (w.drewN n) b x s := ⟨below_drewN h.bel n, rowIs_drewN h.bt n, rowIs_drewN h.rf n, h.ok, h.gb, h.gx, h.ne⟩
theorem Two.drew (h : Two w0 w b x s) : Two w0 w.drew b x s := ⟨h.bel.drew, World.rowIs.drew h.bt, World.rowIs.drew h.rf, h.ok, h.gb, h.gx, h.ne⟩
theorem Two.alloc (h : Two w0 w b x s) (o : Obj) : Two w0 (w.alloc o) b x s := ⟨h.bel.alloc h.bel.size o, h.bt.alloc o, h.rf.alloc o, h.ok, h.gb, h.gx, h.ne⟩
theorem Two.below (h : Two w0 w b x s) (hb : Below w.heap.size w w') : Two w0 w' b x s :=
  ⟨h.bel.trans (hb.mono h.bel.size), h.bt.keep (below_grown_none hb) (by simp), h.rf.keep (below_grown_none hb) (by simp), h.ok, h.gb, h.gx, h.ne⟩
/-- A change of another block of the call's own. -/
theorem Two.other (h : Two w0 w b x s) {g : Nat} (hg : w.grownBy w' (some g)) (h0 : w0.heap.size ≤ g) (hb : b ≠ g) (hx : x ≠ g) : Two w0 w' b x s :=
  ⟨below_only h.bel hg h.bel.size h0, h.bt.keep hg (by simpa using hb), h.rf.keep hg (by simpa using hx), h.ok, h.gb, h.gx, h.ne⟩
end

/-- What stands of the rest of memory when the two have turned: only their blocks. -/
def OnlyTwo (w w' : World) (b x : Nat) : Prop := w.heap.size ≤ w'.heap.size ∧ ∀ k, k < w.heap.size → k ≠ b → k ≠ x → w'.heap[k]? = w.heap[k]?

theorem OnlyTwo.refl (w : World) (b x : Nat) : OnlyTwo w w b x := ⟨Nat.le_refl _, fun _ _ _ _ => rfl⟩
theorem OnlyTwo.trans {a b c : World} {p q : Nat} (h : OnlyTwo a b p q) (k : OnlyTwo b c p q) : OnlyTwo a c p q :=
  ⟨Nat.le_trans h.1 k.1, fun i hi h1 h2 => (k.2 i (Nat.lt_of_lt_of_le hi h.1) h1 h2).trans (h.2 i hi h1 h2)⟩
theorem OnlyTwo.left {w w' : World} {b x : Nat} (h : w.grownBy w' (some b)) : OnlyTwo w w' b x := ⟨h.size, fun k hk h1 _ => h.block k hk (by simpa using h1)⟩
theorem OnlyTwo.right {w w' : World} {b x : Nat} (h : w.grownBy w' (some x)) : OnlyTwo w w' b x := ⟨h.size, fun k hk _ h2 => h.block k hk (by simpa using h2)⟩
theorem OnlyTwo.below {w w' : World} {b x : Nat} (h : Below w.heap.size w w') : OnlyTwo w w' b x := ⟨h.size, fun k hk _ _ => h.block k hk⟩
theorem OnlyTwo.drewN {w w' : World} {b x : Nat} (h : OnlyTwo w w' b x) (n : Nat) : OnlyTwo w (w'.drewN n) b x := h

theorem OnlyTwo.blk {w w' : World} {b x g : Nat} {t : TypeId} {cs : Array Value} (h : OnlyTwo w w' b x) (hg : Blk w g t cs) (hb : g ≠ b) (hx : g ≠ x) : Blk w' g t cs := (h.2 g hg.lt hb hx).trans hg
theorem OnlyTwo.own {w w' : World} {b x base e size n : Nat} {v : Value} {xs : List Value} (h : OnlyTwo w w' b x) (ho : w.ownsRow base e size v n xs) (hb : v.ownBlock ≠ some b) (hx : v.ownBlock ≠ some x) : w'.ownsRow base e size v n xs := by
  refine ⟨ho.1, ?_⟩
  rcases ho.2 with hn | ⟨g, cap, cur, rfl, hbb, hgg, rest⟩
  · exact .inl hn
  · refine .inr ⟨g, cap, cur, rfl, hbb, ?_, rest⟩
    rw [h.2 g (Array.getElem?_eq_some_iff.1 hgg).1 (by simpa [Value.ownBlock] using hb) (by simpa [Value.ownBlock] using hx)]
    exact hgg

theorem row_ne {w : World} {b base e size n t m : Nat} {f : Nat → Value} {v : Value} {xs : List Value} (h : w.ownsRow base e size v n xs) (hb : w.rowIs b t m f) (hne : e ≠ t) : v.ownBlock ≠ some b := by
  obtain ⟨c, hc, _, _⟩ := hb
  exact own_blk_ne h (g := b) (t := t) (cs := c) hc hne
theorem blk_ne {w : World} {b g t t' m : Nat} {cs : Array Value} {f : Nat → Value} (h : Blk w g t' cs) (hb : w.rowIs b t m f) (hne : t' ≠ t) : g ≠ b := by
  obtain ⟨c, hc, _, _⟩ := hb
  exact h.ne_ (t' := t) (cs' := c) hc hne

section
variable (w0 w : World) (b x : Nat) (s : BSt)
theorem two_heard (who now : Int) (h : Two w0 w b x s) :
    Calls Try.prog 11 #[.pointer (some ⟨b, 0, none⟩), .int .i64 who, .int .u64 now] w fun e w' => e = .returned (.bool (heardB s who)) ∧
      IsBeat w' b (heardS s who now) ∧ IsRef w' x s ∧ Below w0.heap.size w0 w' ∧ OnlyTwo w w' b x :=
  (heard_any b s who now w h.bt h.ok.n7).mono fun _ _ ⟨he, hb, hg, _⟩ => ⟨he, hb, h.rf.keep hg (by simpa using h.ne.symm), below_only h.bel hg h.bel.size h.gb, .left hg⟩
theorem two_rheard (who now : Int) (s' : BSt) (h : IsRef w x s) (hb : IsBeat w b s') (hl : Below w0.heap.size w0 w) (ho : s.Ok) (gx : w0.heap.size ≤ x) (ne : b ≠ x) :
    Calls Try.prog 12 #[.pointer (some ⟨x, 0, none⟩), .int .i64 who, .int .u64 now] w fun e w' => e = .returned (.bool (heardB s who)) ∧
      IsBeat w' b s' ∧ IsRef w' x (heardS s who now) ∧ Below w0.heap.size w0 w' ∧ OnlyTwo w w' b x :=
  (rheard_any x s who now w h ho.n7).mono fun _ _ ⟨he, hr, hg, _⟩ => ⟨he, hb.keep hg (by simpa using ne), hr, below_only hl hg hl.size gx, .right hg⟩
theorem two_mark (o n : Int) (h : Two w0 w b x s) :
    Calls Try.prog 13 #[.pointer (some ⟨b, 0, none⟩), .int .i64 o, .int .i64 n] w fun e w' => e = .returned (.bool (markB s o n)) ∧
      IsBeat w' b (markS s o n) ∧ IsRef w' x s ∧ Below w0.heap.size w0 w' ∧ OnlyTwo w w' b x :=
  (mark_any b s o n w h.bt h.ok.n7).mono fun _ _ ⟨he, hb, hg, _⟩ => ⟨he, hb, h.rf.keep hg (by simpa using h.ne.symm), below_only h.bel hg h.bel.size h.gb, .left hg⟩
theorem two_rmark (o n : Int) (s' : BSt) (h : IsRef w x s) (hb : IsBeat w b s') (hl : Below w0.heap.size w0 w) (ho : s.Ok) (gx : w0.heap.size ≤ x) (ne : b ≠ x) :
    Calls Try.prog 14 #[.pointer (some ⟨x, 0, none⟩), .int .i64 o, .int .i64 n] w fun e w' => e = .returned (.bool (markB s o n)) ∧
      IsBeat w' b s' ∧ IsRef w' x (markS s o n) ∧ Below w0.heap.size w0 w' ∧ OnlyTwo w w' b x :=
  (rmark_any x s o n w h ho.n7).mono fun _ _ ⟨he, hr, hg, _⟩ => ⟨he, hb.keep hg (by simpa using ne), hr, below_only hl hg hl.size gx, .right hg⟩
theorem two_alive (who now : Int) (h : Two w0 w b x s) (h0 : 0 ≤ now) (h1 : now ≤ 18446744073709551615) :
    Calls Try.prog 20 #[.pointer (some ⟨b, 0, none⟩), .int .i64 who, .int .u64 now] w fun e w' => e = .returned (.bool (aliveB s who now)) ∧ ∃ n, w' = w.drewN n :=
  alive_any b s who now w h.bt h.ok h0 h1
theorem two_ralive (who now : Int) (h : Two w0 w b x s) (h0 : 0 ≤ now) (h1 : now ≤ 18446744073709551615) :
    Calls Try.prog 21 #[.pointer (some ⟨x, 0, none⟩), .int .i64 who, .int .u64 now] w fun e w' => e = .returned (.bool (aliveB s who now)) ∧ ∃ n, w' = w.drewN n :=
  ralive_any x s who now w h.rf h.ok h0 h1
theorem two_marks (h : Two w0 w b x s) :
    Calls Try.prog 18 #[.pointer (some ⟨b, 0, none⟩)] w fun e w' => ∃ g cap, e = .returned (.slice (some ⟨g, 0, none⟩) s.n.toNat cap) ∧
      w'.ownsRow w.heap.size 3 1 (.slice (some ⟨g, 0, none⟩) s.n.toNat cap) s.n.toNat (ints s.marks) ∧ Below w.heap.size w w' ∧ Two w0 w' b x s :=
  (marks_any b s w h.bt h.ok).mono fun _ _ ⟨v, he, hown, hb⟩ => by
    obtain ⟨g, cap, rfl, _, _⟩ := hown.form (by have := h.ok.n1; omega)
    exact ⟨g, cap, he, hown, hb, h.below hb⟩
theorem two_rmarks (h : Two w0 w b x s) :
    Calls Try.prog 19 #[.pointer (some ⟨x, 0, none⟩)] w fun e w' => ∃ g cap, e = .returned (.slice (some ⟨g, 0, none⟩) s.n.toNat cap) ∧
      w'.ownsRow w.heap.size 3 1 (.slice (some ⟨g, 0, none⟩) s.n.toNat cap) s.n.toNat (ints s.marks) ∧ Below w.heap.size w w' ∧ Two w0 w' b x s :=
  (rmarks_any x s w h.rf h.ok).mono fun _ _ ⟨v, he, hown, hb⟩ => by
    obtain ⟨g, cap, rfl, _, _⟩ := hown.form (by have := h.ok.n1; omega)
    exact ⟨g, cap, he, hown, hb, h.below hb⟩
end

end Go.Proofs.Ytonjpdidbgicgaa
