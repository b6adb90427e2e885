/-
  Chapter 16: the store and the document's store side by side.
-/
import Derived.Test.YtfcaneofkdaicaaX5
import Derived.Test.YtfcaneofkdaicaaP2
namespace Go.Proofs.Ytfcaneofkdaicaa
open Go.RowKit Go.Sort Go.Maps Go.Shelf

/-- Both stores, and blocks beside them that stay as they are. -/
structure PW (w0 w : World) (F : List Nat) (B bv bl bd : Nat) (acc : List Cm) (xb : Nat) (VL VR : Value) (acc2 : List Cm) (ks : List Kb) : Prop where
  s : SS w0 w F B bv bl bd acc
  x : XR w w0.heap.size xb VL VR acc2
  fx : ¬ xb ∈ F
  fl : ∀ g, VL.ownBlock = some g → ¬ g ∈ F
  fr : ∀ g, VR.ownBlock = some g → ¬ g ∈ F
  bx : B ≠ xb
  kept : ∀ k ∈ ks, Blk w k.1 k.2.1 k.2.2 ∧ ¬ k.1 ∈ F ∧ k.1 ≠ xb

section
variable {w0 w w' : World} {F : List Nat} {B bv bl bd xb : Nat} {acc acc2 : List Cm} {VL VR : Value} {ks : List Kb}
theorem PW.below (h : PW w0 w F B bv bl bd acc xb VL VR acc2 ks) (hk : Below w.heap.size w w') : PW w0 w' F B bv bl bd acc xb VL VR acc2 ks :=
  ⟨h.s.below hk, h.x.below hk, h.fx, h.fl, h.fr, h.bx, fun k hm => ⟨(h.kept k hm).1.below hk (h.kept k hm).1.lt, (h.kept k hm).2⟩⟩
theorem PW.gr (h : PW w0 w F B bv bl bd acc xb VL VR acc2 ks) (hk : Gr w w') : PW w0 w' F B bv bl bd acc xb VL VR acc2 ks := h.below hk.below
theorem PW.drop (h : PW w0 w F B bv bl bd acc xb VL VR acc2 ks) {ks' : List Kb} (hs : ∀ k ∈ ks', k ∈ ks) : PW w0 w F B bv bl bd acc xb VL VR acc2 ks' :=
  ⟨h.s, h.x, h.fx, h.fl, h.fr, h.bx, fun k hm => h.kept k (hs k hm)⟩
theorem PW.box (h : PW w0 w F B bv bl bd acc xb VL VR acc2 ks) (t : TypeId) (cs : Array Value) : PW w0 (w.alloc (.cells cs t)) F B bv bl bd acc xb VL VR acc2 ((w.heap.size, t, cs) :: ks) := by
  have h1 := h.gr ((Gr.refl w).alloc (.cells cs t))
  refine ⟨h1.s, h1.x, h1.fx, h1.fl, h1.fr, h1.bx, fun k hm => ?_⟩
  rcases List.mem_cons.1 hm with rfl | hm
  · exact ⟨Blk.new w t cs, fun e => by have := h.s.flt _ e; exact absurd this (Nat.lt_irrefl _), fun e => by have := h.x.blk.lt; rw [← e] at this; exact absurd this (Nat.lt_irrefl _)⟩
  · exact h1.kept k hm
theorem PW.blk (h : PW w0 w F B bv bl bd acc xb VL VR acc2 ks) {g : Nat} {t : TypeId} {cs : Array Value} (hm : (g, t, cs) ∈ ks) : Blk w g t cs := (h.kept _ hm).1
/-- The store applies. -/
theorem PW.first (h : PW w0 w F B bv bl bd acc xb VL VR acc2 ks) {F' : List Nat} {acc' : List Cm} (hs : SS w0 w' F' B bv bl bd acc') (hk : Only (· ∈ F) w w') (hF : ∀ b ∈ F', b ∈ F ∨ w.heap.size ≤ b) : PW w0 w' F' B bv bl bd acc' xb VL VR acc2 ks := by
  have hfar : ∀ b, b < w.heap.size → ¬ b ∈ F → ¬ b ∈ F' := fun b hb h1 h2 => by rcases hF b h2 with h3 | h3; exact h1 h3; omega
  refine ⟨hs, h.x.only hk h.fx h.fl h.fr, hfar _ h.x.blk.lt h.fx, fun g hg => hfar _ (own_ge h.x.ol g hg).2 (h.fl g hg), fun g hg => hfar _ (own_ge h.x.or g hg).2 (h.fr g hg), h.bx, fun k hm => ?_⟩
  obtain ⟨k1, k2, k3⟩ := h.kept k hm
  exact ⟨(hk.block _ k1.lt k2).trans k1, hfar _ k1.lt k2, k3⟩
/-- The document's store applies. -/
theorem PW.second (h : PW w0 w F B bv bl bd acc xb VL VR acc2 ks) {VL' VR' : Value} {acc' : List Cm} (hx : XR w' w0.heap.size xb VL' VR' acc') (hk : Only (fun b => b = xb) w w') (h1 : VL' = VL ∨ ∀ g, VL'.ownBlock = some g → w.heap.size ≤ g)
    (h2 : VR' = VR ∨ ∀ g, VR'.ownBlock = some g → w.heap.size ≤ g) : PW w0 w' F B bv bl bd acc xb VL' VR' acc' ks := by
  refine ⟨h.s.only hk (fun b hb e => h.fx (e ▸ hb)) h.bx (fun b e => e ▸ h.x.gx), hx, h.fx, fun g hg e => ?_, fun g hg e => ?_, h.bx, fun k hm => ?_⟩
  · rcases h1 with rfl | h1
    · exact h.fl g hg e
    · have := h1 g hg; have := h.s.flt g e; omega
  · rcases h2 with rfl | h2
    · exact h.fr g hg e
    · have := h2 g hg; have := h.s.flt g e; omega
  · obtain ⟨k1, k2, k3⟩ := h.kept k hm
    exact ⟨(hk.block _ k1.lt k3).trans k1, k2, k3⟩
end
theorem PW.start {w0 w : World} {F : List Nat} {B bv bl bd : Nat} (h : SK w0 w F B bv bl bd [] []) : PW w0 (w.alloc (.cells #[.slice none 0 0, .slice none 0 0] 31)) F B bv bl bd [] w.heap.size (.slice none 0 0) (.slice none 0 0) [] [] := by
  refine ⟨h.ss.alloc _, ⟨Blk.new _ _ _, World.ownsRow_nil _ _ _ _, World.ownsRow_nil _ _ _ _, fun g e => (by cases e), fun g e => (by cases e), h.ss.bel.size⟩, fun e => ?_, fun g e => (by cases e), fun g e => (by cases e), fun e => ?_, by simp⟩
  · have := h.ss.flt _ e; exact absurd this (Nat.lt_irrefl _)
  · have := h.ss.lt; rw [e] at this; exact absurd this (Nat.lt_irrefl _)

theorem xeq_rep (x y : Rp) (w : World) : (binOp .eql 41 x.val y.val).run Try.prog w = .ok (.bool (x.c == y.c && (x.s == y.s && (x.f == y.f && x.v.toList == y.v.toList)))) w := by
  have hS : Try.prog.underlying 41 = some (.struct (Try.prog.fieldsOf 41)) := by kernel_rfl
  have hp : Try.prog.stoodInHeld 41 = false := by kernel_rfl
  have u3 := Try.underlying3
  have u9 := Try.underlying9
  have u23 := Try.underlying23
  have u4 := Try.underlying4
  have a3 := Try.isAgg3
  have a9 := Try.isAgg9
  have a23 := Try.isAgg23
  have a4 := Try.isAgg4
  have z3 := Try.sizeOf3
  have z9 := Try.sizeOf9
  have z23 := Try.sizeOf23
  have z4 := Try.sizeOf4
  unfold Rp.val
  rw [run_eql_struct, show (10000 : Nat) = 9999 + 1 from rfl, run_equalIn_agg w 9999 41 _ _ hS hp]
  simp only [Program.fieldsOf, Try.underlying41]
  go_simp
  by_cases h1 : x.c = y.c <;> by_cases h2 : x.s = y.s <;> by_cases h3 : x.f = y.f <;> by_cases h4 : (x.v.toList == y.v.toList) = true <;> simp_all
theorem xsame_rep (c s : Int) (f : Bool) (v : ByteArray) (w : World) : (binOp .eql 41 (.agg #[.int .i64 c, .int .u32 s, .bool f, .string v]) (.agg #[.int .i64 c, .int .u32 s, .bool f, .string v])).run Try.prog w = .ok (.bool true) w := by
  have h := xeq_rep ⟨c, s, f, v⟩ ⟨c, s, f, v⟩ w
  unfold Rp.val at h
  simpa using h
set_option maxRecDepth 100000 in
theorem xdiff_rep (c s : Int) (f : Bool) (v : ByteArray) (w : World) : (binOp .neq 41 (.agg #[.int .i64 c, .int .u32 s, .bool f, .string v]) (.agg #[.int .i64 c, .int .u32 s, .bool f, .string v])).run Try.prog w = .ok (.bool false) w := by
  have h := xsame_rep c s f v w
  rw [run_eql_struct] at h
  rw [run_neq_struct]
  cases hh : (Op.equalIn 10000 41 (.agg #[.int .i64 c, .int .u32 s, .bool f, .string v]) (.agg #[.int .i64 c, .int .u32 s, .bool f, .string v])).run Try.prog w with
  | ok b w' =>
    rw [hh] at h
    simp only [Result.andThen_ok] at h ⊢
    injection h with h1 h2
    injection h1 with h1
    rw [h1, h2]; rfl
  | halt z w' =>
    rw [hh] at h
    cases h
set_option maxRecDepth 100000 in
theorem xdiff_cmd (x : Cm) (w : World) : (binOp .neq 44 (.agg #[.int .i64 x.o, .int .i64 x.c, .int .u32 x.s, .string x.k, .string x.v]) (.agg #[.int .i64 x.o, .int .i64 x.c, .int .u32 x.s, .string x.k, .string x.v])).run Try.prog w = .ok (.bool false) w := by
  have h := xeq_cmd x x w
  unfold Cm.val at h
  simp only [beq_self_eq_true, Bool.and_self] at h
  rw [run_eql_struct] at h
  rw [run_neq_struct]
  cases hh : (Op.equalIn 10000 44 (.agg #[.int .i64 x.o, .int .i64 x.c, .int .u32 x.s, .string x.k, .string x.v]) (.agg #[.int .i64 x.o, .int .i64 x.c, .int .u32 x.s, .string x.k, .string x.v])).run Try.prog w with
  | ok b w' =>
    rw [hh] at h
    simp only [Result.andThen_ok] at h ⊢
    injection h with h1 h2
    injection h1 with h1
    rw [h1, h2]; rfl
  | halt z w' =>
    rw [hh] at h
    cases h

/-- A row of commands read. -/
theorem cmds_at {w : World} {base n c : Nat} {t : TypeId} {A : Option Addr} {l : List Cm} (hl : l.length = n) (h : w.ownsRow base t 5 (.slice A n c) n (cellsL Cm.cells l)) : ∀ j x, l[j]? = some x → ∃ g, A = some ⟨g, 0, none⟩ ∧ g < w.heap.size ∧
    w.cell? ⟨g, j * 5, none⟩ = some (.int .i64 x.o) ∧ w.cell? ⟨g, j * 5 + 1, none⟩ = some (.int .i64 x.c) ∧ w.cell? ⟨g, j * 5 + 2, none⟩ = some (.int .u32 x.s) ∧ w.cell? ⟨g, j * 5 + 3, none⟩ = some (.string x.k) ∧ w.cell? ⟨g, j * 5 + 4, none⟩ = some (.string x.v) := by
  obtain ⟨A', c', e, h1⟩ := row_cells cmd_len hl h
  injection e with e1 _ e3
  subst e1 e3
  intro j x hj
  obtain ⟨g, hA, hg, hc⟩ := h1 j x hj
  exact ⟨g, hA, hg, (hc 0 (by omega)).trans rfl, (hc 1 (by omega)).trans rfl, (hc 2 (by omega)).trans rfl, (hc 3 (by omega)).trans rfl, (hc 4 (by omega)).trans rfl⟩

end Go.Proofs.Ytfcaneofkdaicaa
