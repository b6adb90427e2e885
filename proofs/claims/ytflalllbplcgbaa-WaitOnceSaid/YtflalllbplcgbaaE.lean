/-
  Chapter 18: Stop, Of: walked.
-/
import Derived.Test.YtflalllbplcgbaaD
namespace Go.Proofs.Ytflalllbplcgbaa
open Go.RowKit Go.Sort Go.Maps

def zeroIt : It := ⟨0, 0, 0, 0⟩
theorem zero_wait (w : World) : (zeroValue 47).run Try.prog w = .ok zeroIt.val w := by
  have h := Try.zeroValue47 w
  exact h

/-- What the map says of an instance, with its word whether it is there. -/
theorem WS.look {w0 w : World} {B b : Nat} {l : List It} (h : WS w0 w B b l) (o n : Int) (ho : Fits o) (hn : Fits n) :
    (Instr.lookup 65 (.map (some b)) (keyV o n) true).run Try.prog w = .ok (.tuple #[((getL o n l).getD zeroIt).val, .bool (getL o n l).isSome]) w := by
  obtain ⟨kl, hkl⟩ := id_key o n ho hn
  rw [h.map.look id_law Try.underlying65 (zero_wait w) hkl true, getL_entry]
  cases getL o n l <;> rfl

set_option maxRecDepth 100000 in
set_option maxHeartbeats 1000000 in
theorem stop_any (w0 w : World) (B b : Nat) (l : List It) (o n : Int) (ho : Fits o) (hn : Fits n) (h : WS w0 w B b l) :
    Calls Try.prog 17 #[.pointer (some ⟨B, 0, none⟩), keyV o n] w
      fun e w' => e = .returned (.bool (getL o n l).isSome) ∧ WS w0 w' B b (delL o n l) ∧ w.grownBy w' (some b) := by
  obtain ⟨kl, hkl⟩ := id_key o n ho hn
  have hbox : Blk (w.alloc (.cells #[.int .i64 o, .int .i64 n] 36)) w.heap.size 36 #[.int .i64 o, .int .i64 n] := Blk.new _ _ _
  have hW1 := (h.alloc (.cells #[.int .i64 o, .int .i64 n] 36)).drew
  have hl := hW1.look o n ho hn
  obtain ⟨y, hy⟩ : ∃ y, y = (getL o n l).getD zeroIt := ⟨_, rfl⟩
  obtain ⟨r, hr⟩ : ∃ r, r = (getL o n l).isSome := ⟨_, rfl⟩
  rw [← hy, ← hr] at hl
  have Y := hide hy
  have R := hide hr
  rw [← hr]
  have OK := hide (show ∀ x ∈ delL o n l, x.Ok from fun x hx => h.ok x (List.mem_filter.1 hx).1)
  have c0 := hW1.cell
  have d0 : (w.alloc (.cells #[.int .i64 o, .int .i64 n] 36)).drew.cell? ⟨w.heap.size, 0, none⟩ = some (.int .i64 o) := (hbox.cell 0).trans rfl
  have d1 : (w.alloc (.cells #[.int .i64 o, .int .i64 n] 36)).drew.cell? ⟨w.heap.size, 1, none⟩ = some (.int .i64 n) := (hbox.cell 1).trans rfl
  have W1 := hide hW1
  have HB := hide hbox
  have K := hide hkl
  clear hW1 hbox hkl hy hr h
  unfold keyV at hl
  unfold keyV
  unfold It.val at hl
  have KS : ∀ W' : World, Below (w.heap.size + 1) ((w.alloc (.cells #[.int .i64 o, .int .i64 n] 36)).drew) W' →
      W'.cell? ⟨B, 0, none⟩ = some (.map (some b)) ∧ W'.cell? ⟨w.heap.size, 0, none⟩ = some (.int .i64 o) ∧ W'.cell? ⟨w.heap.size, 1, none⟩ = some (.int .i64 n) ∧
      (Instr.lookup 65 (.map (some b)) (.agg #[.int .i64 o, .int .i64 n]) true).run Try.prog W' = .ok (.tuple #[.agg #[.int .i64 y.o, .int .i64 y.n, .int .u64 y.at_, .int .i64 y.t], .bool r]) W' := by
    intro W' hb
    have hs : ((w.alloc (.cells #[.int .i64 o, .int .i64 n] 36)).drew).heap.size = w.heap.size + 1 := by simp [size_drew]
    have hW2 := W1.out.below (hs ▸ hb)
    have hl2 := hW2.look o n ho hn
    rw [← Y.out, ← R.out] at hl2
    exact ⟨hW2.cell, (hb.cell (p := ⟨w.heap.size, 0, none⟩) (Nat.lt_succ_self _)).trans d0, (hb.cell (p := ⟨w.heap.size, 1, none⟩) (Nat.lt_succ_self _)).trans d1, hl2⟩
  have KSH := hide KS
  clear KS
  have hsz : ((w.alloc (.cells #[.int .i64 o, .int .i64 n] 36)).drew).heap.size = w.heap.size + 1 := by simp [size_drew]
  have SZ := hide hsz
  clear hsz
  go_enter Try.func17, Try.ntmps17
  go_wp2_with fail
  go_region_held3 (fun W' => W'.cell? ⟨B, 0, none⟩ = some (.map (some b)) ∧ W'.cell? ⟨w.heap.size, 0, none⟩ = some (.int .i64 o) ∧ W'.cell? ⟨w.heap.size, 1, none⟩ = some (.int .i64 n) ∧
      (Instr.lookup 65 (.map (some b)) (.agg #[.int .i64 o, .int .i64 n]) true).run Try.prog W' = .ok (.tuple #[.agg #[.int .i64 y.o, .int .i64 y.n, .int .u64 y.at_, .int .i64 y.t], .bool r]) W')
    (first
      | exact KSH.out _ (Below.refl _ _)
      | exact KSH.out _ ((Below.refl _ _).alloc (Nat.le_of_eq SZ.out.symm) _))
    (fail)
  all_goals
    have hb2 := (Below.refl (w.heap.size + 1) (w.alloc (.cells #[.int .i64 o, .int .i64 n] 36)).drew).alloc (Nat.le_of_eq SZ.out.symm) (.cells #[.int .i64 y.o, .int .i64 y.n, .int .u64 y.at_, .int .i64 y.t] 47)
    obtain ⟨e0, e1, e2, _⟩ := KSH.out _ hb2
    have hW2 := (W1.out.below (SZ.out ▸ hb2)).drew
    obtain ⟨w2, hrun, hm2, hg2, _⟩ := MapIs.del (w := ((w.alloc (.cells #[.int .i64 o, .int .i64 n] 36)).alloc (.cells #[.int .i64 y.o, .int .i64 y.n, .int .u64 y.at_, .int .i64 y.t] 47)).drew.drew) hW2.map id_law Try.underlying65 K.out 0
    rw [delL_entry] at hm2
    have W3 := hide (hW2.set_ hg2 hm2 OK.out)
    have G3 := hide (only_trans (only_of_below ((((((Gr.refl w).alloc (.cells #[.int .i64 o, .int .i64 n] 36)).alloc (.cells #[.int .i64 y.o, .int .i64 y.n, .int .u64 y.at_, .int .i64 y.t] 47)).drew).drew).below) (some b)) hg2)
    unfold keyV at hrun
    clear hb2 d0 d1 c0 hl hm2 hg2 hW2
    go_wp2_with fail
    refine wp_region_tail 5 mixed (by kernel_rfl) ?_
    simp only [List.take_succ_cons, List.take_zero, List.drop_succ_cons, List.drop_zero]
    repeat still_step
    refine wpStill_nil ?_
    go_wp2_with fail
    go_ret
    exact ⟨rfl, W3.out, G3.out⟩

set_option maxRecDepth 100000 in
set_option maxHeartbeats 1000000 in
theorem of_any (w0 w : World) (B b : Nat) (l : List It) (o n : Int) (ho : Fits o) (hn : Fits n) (h : WS w0 w B b l) :
    Calls Try.prog 24 #[.pointer (some ⟨B, 0, none⟩), keyV o n] w
      fun e w' => e = .returned (.tuple #[((getL o n l).getD zeroIt).val, .bool (getL o n l).isSome]) ∧ Below w.heap.size w w' := by
  obtain ⟨y, hy⟩ : ∃ y, y = (getL o n l).getD zeroIt := ⟨_, rfl⟩
  obtain ⟨r, hr⟩ : ∃ r, r = (getL o n l).isSome := ⟨_, rfl⟩
  have Y := hide hy
  have R := hide hr
  rw [← hr, ← hy]
  obtain ⟨WA, hWA⟩ : ∃ WA, WA = ((w.alloc (.cells #[.int .i64 o, .int .i64 n] 36)).alloc (.cells #[.int .i64 0, .int .i64 0, .int .u64 0, .int .i64 0] 47)) := ⟨_, rfl⟩
  have hb0 : Blk WA w.heap.size 36 #[.int .i64 o, .int .i64 n] := by rw [hWA]; exact (Blk.new _ _ _).alloc _
  have hz0 : Blk WA (w.heap.size + 1) 47 #[.int .i64 0, .int .i64 0, .int .u64 0, .int .i64 0] := by
    rw [hWA]
    have := Blk.new (w.alloc (.cells #[.int .i64 o, .int .i64 n] 36)) 47 #[.int .i64 0, .int .i64 0, .int .u64 0, .int .i64 0]
    rwa [World.size_alloc] at this
  have hs : WA.heap.size = w.heap.size + 2 := by rw [hWA]; simp
  have hW1 : WS w0 WA B b l := by rw [hWA]; exact (h.alloc _).alloc _
  have hbel : Below w.heap.size w WA := by rw [hWA]; exact ((Below.refl _ _).alloc (Nat.le_refl _) _).alloc (by simp) _
  have BEL := hide hbel
  have d0 : WA.cell? ⟨w.heap.size, 0, none⟩ = some (.int .i64 o) := (hb0.cell 0).trans rfl
  have d1 : WA.cell? ⟨w.heap.size, 1, none⟩ = some (.int .i64 n) := (hb0.cell 1).trans rfl
  have KS : ∀ W' : World, Below (w.heap.size + 2) WA W' →
      W'.cell? ⟨B, 0, none⟩ = some (.map (some b)) ∧ W'.cell? ⟨w.heap.size, 0, none⟩ = some (.int .i64 o) ∧ W'.cell? ⟨w.heap.size, 1, none⟩ = some (.int .i64 n) ∧
      (Instr.lookup 65 (.map (some b)) (.agg #[.int .i64 o, .int .i64 n]) true).run Try.prog W' = .ok (.tuple #[.agg #[.int .i64 y.o, .int .i64 y.n, .int .u64 y.at_, .int .i64 y.t], .bool r]) W' := by
    intro W' hb
    have hW2 := hW1.below (hs ▸ hb)
    have hl2 := hW2.look o n ho hn
    rw [← Y.out, ← R.out] at hl2
    exact ⟨hW2.cell, (hb.cell (p := ⟨w.heap.size, 0, none⟩) (by show w.heap.size < _; omega)).trans d0, (hb.cell (p := ⟨w.heap.size, 1, none⟩) (by show w.heap.size < _; omega)).trans d1, hl2⟩
  have KSH := hide KS
  have HS := hide hs
  have HZ := hide hz0
  clear KS hs hW1 hbel hz0 hb0 d0 d1 hy hr h
  unfold keyV It.val
  go_enter Try.func24, Try.ntmps24
  go_wp2_with fail
  rw [← hWA]
  have HW := hide hWA
  clear hWA
  go_region_held3 (fun W' => W'.cell? ⟨B, 0, none⟩ = some (.map (some b)) ∧ W'.cell? ⟨w.heap.size, 0, none⟩ = some (.int .i64 o) ∧ W'.cell? ⟨w.heap.size, 1, none⟩ = some (.int .i64 n) ∧
      (Instr.lookup 65 (.map (some b)) (.agg #[.int .i64 o, .int .i64 n]) true).run Try.prog W' = .ok (.tuple #[.agg #[.int .i64 y.o, .int .i64 y.n, .int .u64 y.at_, .int .i64 y.t], .bool r]) W')
    (first
      | exact KSH.out _ (Below.refl _ _)
      | exact KSH.out _ (Below.refl _ _).drew
      | exact KSH.out _ ((Below.refl _ _).alloc (Nat.le_of_eq HS.out.symm) _)
      | exact KSH.out _ ((Below.refl _ _).alloc (Nat.le_of_eq HS.out.symm) _).drew)
    (fail)
  all_goals
    obtain ⟨WB, hWB⟩ : ∃ WB, WB = (WA.alloc (.cells #[.int .i64 y.o, .int .i64 y.n, .int .u64 y.at_, .int .i64 y.t] 47)).drew := ⟨_, rfl⟩
    have hbz : Blk WB (w.heap.size + 1) 47 #[.int .i64 0, .int .i64 0, .int .u64 0, .int .i64 0] := by rw [hWB]; exact (HZ.out.alloc _).drew
    have hby : Blk WB (w.heap.size + 2) 47 #[.int .i64 y.o, .int .i64 y.n, .int .u64 y.at_, .int .i64 y.t] := by
      rw [hWB, ← HS.out]
      exact (Blk.new WA _ _).drew
    have hbe : Below w.heap.size w WB := by rw [hWB]; exact (BEL.out.alloc BEL.out.size _).drew
    have hsz : WA.heap.size = w.heap.size + 2 := HS.out
    rw [← hWB, hsz]
    have y0 := (hby.cell 0).trans rfl
    have y1 := (hby.cell 1).trans rfl
    have y2 := (hby.cell 2).trans rfl
    have y3 := (hby.cell 3).trans rfl
    have z0 := (hbz.cell 0).trans rfl
    have z1 := (hbz.cell 1).trans rfl
    have z2 := (hbz.cell 2).trans rfl
    have z3 := (hbz.cell 3).trans rfl
    have f0 := hbz.frozen 0
    have f1 := hbz.frozen 1
    have f2 := hbz.frozen 2
    have f3 := hbz.frozen 3
    have BZ := hide hbz
    have BE := hide hbe
    clear hWB hbz hby hbe hsz
    go_wp2_with fail
    obtain ⟨WC, hWC⟩ : ∃ WC, WC = (((WB.setCell ⟨w.heap.size + 1, 0, none⟩ (.int .i64 y.o)).setCell ⟨w.heap.size + 1, 1, none⟩ (.int .i64 y.n)).setCell ⟨w.heap.size + 1, 2, none⟩ (.int .u64 y.at_)).setCell ⟨w.heap.size + 1, 3, none⟩ (.int .i64 y.t) := ⟨_, rfl⟩
    have hbc : Blk WC (w.heap.size + 1) 47 #[.int .i64 y.o, .int .i64 y.n, .int .u64 y.at_, .int .i64 y.t] := by
      rw [hWC]
      exact ((((BZ.out.set_ 0 _).set_ 1 _).set_ 2 _).set_ 3 _)
    have hbe : Below w.heap.size w WC := by
      rw [hWC]
      exact (((BE.out.setCell (by simp) _).setCell (by simp) _).setCell (by simp) _).setCell (by simp) _
    rw [← hWC]
    have e0 := (hbc.cell 0).trans rfl
    have e1 := (hbc.cell 1).trans rfl
    have e2 := (hbc.cell 2).trans rfl
    have e3 := (hbc.cell 3).trans rfl
    exact bodyPost_ret (v := .tuple #[.agg #[.int .i64 y.o, .int .i64 y.n, .int .u64 y.at_, .int .i64 y.t], .bool r]) (by simp [results, Try.results24, go_sem, e0, e1, e2, e3]) rfl ⟨rfl, hbe⟩

end Go.Proofs.Ytflalllbplcgbaa
