/-
  Chapter 16: two stores side by side.
-/
import Derived.Test.YtfcaneofkdaicaaP2
namespace Go.Proofs.Ytfcaneofkdaicaa
open Go.RowKit Go.Sort Go.Maps Go.Shelf

/-- Two stores, and blocks beside both that stay as they are. -/
structure TW (w0 w : World) (F1 : List Nat) (B1 v1 l1 d1 : Nat) (acc1 : List Cm) (F2 : List Nat) (B2 v2 l2 d2 : Nat) (acc2 : List Cm) (ks : List Kb) : Prop where
  s : SS w0 w F1 B1 v1 l1 d1 acc1
  t : SK w0 w F2 B2 v2 l2 d2 acc2 ks
  FF : ∀ b ∈ F1, ¬ b ∈ F2
  b1 : ¬ B1 ∈ F2
  b2 : ¬ B2 ∈ F1
  kF : ∀ k ∈ ks, ¬ k.1 ∈ F1 ∧ B1 ≠ k.1

section
variable {w0 w w' : World} {F1 F2 : List Nat} {B1 v1 l1 d1 B2 v2 l2 d2 : Nat} {acc1 acc2 : List Cm} {ks : List Kb}
theorem TW.below (h : TW w0 w F1 B1 v1 l1 d1 acc1 F2 B2 v2 l2 d2 acc2 ks) (hk : Below w.heap.size w w') : TW w0 w' F1 B1 v1 l1 d1 acc1 F2 B2 v2 l2 d2 acc2 ks :=
  ⟨h.s.below hk, h.t.below hk, h.FF, h.b1, h.b2, h.kF⟩
theorem TW.gr (h : TW w0 w F1 B1 v1 l1 d1 acc1 F2 B2 v2 l2 d2 acc2 ks) (hk : Gr w w') : TW w0 w' F1 B1 v1 l1 d1 acc1 F2 B2 v2 l2 d2 acc2 ks := h.below hk.below
theorem TW.box (h : TW w0 w F1 B1 v1 l1 d1 acc1 F2 B2 v2 l2 d2 acc2 ks) (t : TypeId) (cs : Array Value) : TW w0 (w.alloc (.cells cs t)) F1 B1 v1 l1 d1 acc1 F2 B2 v2 l2 d2 acc2 ((w.heap.size, t, cs) :: ks) :=
  ⟨h.s.alloc _, h.t.box t cs, h.FF, h.b1, h.b2, fun k hm => by
    rcases List.mem_cons.1 hm with rfl | hm
    · exact ⟨fun e => by have := h.s.flt _ e; exact absurd this (Nat.lt_irrefl _), fun e => by have := h.s.lt; rw [e] at this; exact absurd this (Nat.lt_irrefl _)⟩
    · exact h.kF k hm⟩
theorem TW.drop (h : TW w0 w F1 B1 v1 l1 d1 acc1 F2 B2 v2 l2 d2 acc2 ks) {ks' : List Kb} (hs : ∀ k ∈ ks', k ∈ ks) : TW w0 w F1 B1 v1 l1 d1 acc1 F2 B2 v2 l2 d2 acc2 ks' :=
  ⟨h.s, h.t.drop hs, h.FF, h.b1, h.b2, fun k hm => h.kF k (hs k hm)⟩
/-- The first store applies. -/
theorem TW.first (h : TW w0 w F1 B1 v1 l1 d1 acc1 F2 B2 v2 l2 d2 acc2 ks) {F' : List Nat} {acc' : List Cm} (hs : SS w0 w' F' B1 v1 l1 d1 acc') (hk : Only (· ∈ F1) w w') (hF : ∀ b ∈ F', b ∈ F1 ∨ w.heap.size ≤ b) :
    TW w0 w' F' B1 v1 l1 d1 acc' F2 B2 v2 l2 d2 acc2 ks := by
  have hfar : ∀ b, b < w.heap.size → ¬ b ∈ F1 → ¬ b ∈ F' := fun b hb h1 h2 => by rcases hF b h2 with h3 | h3; exact h1 h3; omega
  refine ⟨hs, ⟨h.t.ss.only hk (fun b hb hb1 => h.FF b hb1 hb) h.b2 h.s.ge, fun k hm => ?_⟩, fun b hb hb2 => ?_, h.b1, hfar B2 h.t.ss.lt h.b2, fun k hm => ⟨hfar _ (h.t.kept k hm).1.lt (h.kF k hm).1, (h.kF k hm).2⟩⟩
  · obtain ⟨k1, k2⟩ := h.t.kept k hm
    exact ⟨(hk.block _ k1.lt (h.kF k hm).1).trans k1, k2⟩
  · have hlt := h.t.ss.flt b hb2
    rcases hF b hb with h3 | h3
    · exact h.FF b h3 hb2
    · omega
/-- The second store applies. -/
theorem TW.second (h : TW w0 w F1 B1 v1 l1 d1 acc1 F2 B2 v2 l2 d2 acc2 ks) {F' : List Nat} {acc' : List Cm} (hs : SS w0 w' F' B2 v2 l2 d2 acc') (hk : Only (· ∈ F2) w w') (hF : ∀ b ∈ F', b ∈ F2 ∨ w.heap.size ≤ b) :
    TW w0 w' F1 B1 v1 l1 d1 acc1 F' B2 v2 l2 d2 acc' ks := by
  have hfar : ∀ b, b < w.heap.size → ¬ b ∈ F2 → ¬ b ∈ F' := fun b hb h1 h2 => by rcases hF b h2 with h3 | h3; exact h1 h3; omega
  exact ⟨h.s.only hk h.FF h.b1 h.t.ss.ge, h.t.applied hs hk hF, fun b hb => hfar b (h.s.flt b hb) (h.FF b hb), hfar B1 h.s.lt h.b1, h.b2, h.kF⟩
/-- A kept block is written. -/
theorem TW.set_ {g : Nat} {t : TypeId} {cs : Array Value} (h : TW w0 w F1 B1 v1 l1 d1 acc1 F2 B2 v2 l2 d2 acc2 ((g, t, cs) :: ks)) (hn : ∀ k ∈ ks, k.1 ≠ g) (i : Nat) (u : Value) :
    TW w0 (w.setCell ⟨g, i, none⟩ u) F1 B1 v1 l1 d1 acc1 F2 B2 v2 l2 d2 acc2 ((g, t, cs.setIfInBounds i u) :: ks) := by
  have h0 := h.kF _ List.mem_cons_self
  have h3 := (h.t.kept _ List.mem_cons_self).2.2.1
  refine ⟨h.s.setCell h0.1 h0.2 h3 u, h.t.set_ hn i u, h.FF, h.b1, h.b2, fun k hm => ?_⟩
  rcases List.mem_cons.1 hm with rfl | hm
  · exact h0
  · exact h.kF k (List.mem_cons_of_mem _ hm)
theorem TW.keep (h : TW w0 w F1 B1 v1 l1 d1 acc1 F2 B2 v2 l2 d2 acc2 ks) {g : Nat} {t : TypeId} {cs : Array Value} (hb : Blk w g t cs) (h0 : w0.heap.size ≤ g) (h1 : ¬ g ∈ F1) (h2 : ¬ g ∈ F2) (h3 : B1 ≠ g) (h4 : B2 ≠ g) :
    TW w0 w F1 B1 v1 l1 d1 acc1 F2 B2 v2 l2 d2 acc2 ((g, t, cs) :: ks) :=
  ⟨h.s, ⟨h.t.ss, fun k hm => by
    rcases List.mem_cons.1 hm with rfl | hm
    · exact ⟨hb, h2, h0, h4⟩
    · exact h.t.kept k hm⟩, h.FF, h.b1, h.b2, fun k hm => by
    rcases List.mem_cons.1 hm with rfl | hm
    · exact ⟨h1, h3⟩
    · exact h.kF k hm⟩
/-- A row that was laid anew is kept whole. -/
theorem TW.row {wa : World} (h : TW w0 wa F1 B1 v1 l1 d1 acc1 F2 B2 v2 l2 d2 acc2 ks) (hw : TW w0 w F1 B1 v1 l1 d1 acc1 F2 B2 v2 l2 d2 acc2 ks) {A : Option Addr} {n c : Nat} {l : List Cm} (hl : l.length = n)
    (ho : wa.ownsRow w.heap.size 33 5 (.slice A n c) n (cellsL Cm.cells l)) :
    ∃ kl : List Kb, TW w0 wa F1 B1 v1 l1 d1 acc1 F2 B2 v2 l2 d2 acc2 (kl ++ ks) ∧ (∀ k ∈ kl, w.heap.size ≤ k.1) ∧ ∀ W : World, (∀ k ∈ kl, Blk W k.1 k.2.1 k.2.2) → ∀ j x, l[j]? = some x → ∃ g, A = some ⟨g, 0, none⟩ ∧ g < W.heap.size ∧
      W.cell? ⟨g, j * 5, none⟩ = some (.int .i64 x.o) ∧ W.cell? ⟨g, j * 5 + 1, none⟩ = some (.int .i64 x.c) ∧ W.cell? ⟨g, j * 5 + 2, none⟩ = some (.int .u32 x.s) ∧ W.cell? ⟨g, j * 5 + 3, none⟩ = some (.string x.k) ∧ W.cell? ⟨g, j * 5 + 4, none⟩ = some (.string x.v) := by
  rcases ho.2 with ⟨h1, h2⟩ | ⟨g, cap, cur, hv, hb, hh, hnc, hm, hsz, ht⟩
  · refine ⟨[], h, by simp, fun W _ j x hj => ?_⟩
    have hn0 : n = 0 := by first | exact h2 | (injection h1)
    have : l = [] := List.eq_nil_of_length_eq_zero (by omega)
    subst this
    simp at hj
  · injection hv with e1 e2 e3
    subst e1
    have hblk : Blk wa g 33 cur := hh
    refine ⟨[(g, 33, cur)], h.keep hblk (Nat.le_trans hw.s.bel.size hb) (fun e => by have := hw.s.flt g e; omega) (fun e => by have := hw.t.ss.flt g e; omega) (fun e => by have := hw.s.lt; omega) (fun e => by have := hw.t.ss.lt; omega), by simpa using hb, fun W hW j x hj => ?_⟩
    have hb2 := hW _ (List.mem_singleton.2 rfl)
    have hjn : j < n := by have := (List.getElem?_eq_some_iff.1 hj).1; omega
    have hc : ∀ i, i < 5 → W.cell? ⟨g, j * 5 + i, none⟩ = x.cells[i]? := by
      intro i hi
      have h5 := cellsL_at Cm.cells cmd_len hj hi
      rw [← h5, ← ht, List.getElem?_take, if_pos (by omega), Array.getElem?_toList]
      exact hb2.cell _
    exact ⟨g, rfl, hb2.lt, (hc 0 (by omega)).trans rfl, (hc 1 (by omega)).trans rfl, (hc 2 (by omega)).trans rfl, (hc 3 (by omega)).trans rfl, (hc 4 (by omega)).trans rfl⟩
end

/-- Apply at the second store, at a command that is new. -/
theorem second_at {w0 w : World} {F1 F2 : List Nat} {B1 v1 l1 d1 B2 v2 l2 d2 : Nat} {acc1 acc2 acc' : List Cm} {ks : List Kb} (h : TW w0 w F1 B1 v1 l1 d1 acc1 F2 B2 v2 l2 d2 acc2 ks) (x : Cm) (hf : x.Fit) (hlen : acc2.length ≤ 1000000)
    (h1 : newC acc2 x = true) (h2 : applyC acc2 x = acc') :
    Calls Try.prog 12 #[.pointer (some ⟨B2, 0, none⟩), .agg #[.int .i64 x.o, .int .i64 x.c, .int .u32 x.s, .string x.k, .string x.v]] w fun e w' =>
      (∃ c s f v, e = .returned (.tuple #[.agg #[.int .i64 c, .int .u32 s, .bool f, .string v], .bool true])) ∧ ∃ F', TW w0 w' F1 B1 v1 l1 d1 acc1 F' B2 v2 l2 d2 acc' ks :=
  (apply_any h.t.ss x hf hlen).mono fun e w' ⟨he, F', hs, hk, hF⟩ => ⟨⟨(told acc2 x).c, (told acc2 x).s, (told acc2 x).f, (told acc2 x).v, by rw [h1] at he; exact he⟩, F', h2 ▸ h.second hs hk hF⟩

end Go.Proofs.Ytfcaneofkdaicaa
