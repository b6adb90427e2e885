/-
  Chapter 16: Apply, when the command is none, or known: walked.
-/
import Derived.Test.YtfcaneofkdaicaaW4
namespace Go.Proofs.Ytfcaneofkdaicaa
open Go.RowKit Go.Sort Go.Maps

set_option maxRecDepth 100000 in
set_option maxHeartbeats 1000000 in
theorem apply_noop {w0 w : World} {F : List Nat} {B bv bl bd : Nat} {acc : List Cm} (h : SS w0 w F B bv bl bd acc) (c s : Int) (k v : ByteArray) (hx : rightC ⟨0, c, s, k, v⟩ = true) :
    Calls Try.prog 12 #[.pointer (some ⟨B, 0, none⟩), .agg #[.int .i64 0, .int .i64 c, .int .u32 s, .string k, .string v]] w fun e w' => e = .returned (.tuple #[Rp.zero.val, .bool false]) ∧ Below w.heap.size w w' := by
  obtain ⟨k0, k1, hg, hs⟩ := begun ⟨0, c, s, k, v⟩ w
  have R := hide (fun W => right_any ⟨0, c, s, k, v⟩ W true hx)
  have K0 := hide k0
  have K1 := hide k1
  have G := hide hg
  clear k0 k1 hg hs h hx
  unfold Cm.val at R
  unfold Rp.val Rp.zero
  go_enter Try.func12, Try.ntmps12
  go_wp2_with fail
  refine wp_scope_once 0 rfl ?_
  go_wp2_with fail
  refine (R.out _).mono ?_
  rintro e w1 ⟨rfl, g1⟩
  have G1 := hide (G.out.trans g1)
  have b1 := K1.out.gr g1
  have a1 := K0.out.gr g1
  have x0 : w1.cell? ⟨w.heap.size, 0, none⟩ = some (.int .i64 0) := (a1.cell 0).trans rfl
  have f0 := b1.frozen 0
  have f1 := b1.frozen 1
  have f2 := b1.frozen 2
  have f3 := b1.frozen 3
  have z0 := (b1.cell 0).trans rfl
  have z1 := (b1.cell 1).trans rfl
  have z2 := (b1.cell 2).trans rfl
  have z3 := (b1.cell 3).trans rfl
  have B1 := hide b1
  clear b1 g1 a1
  go_wp2_with fail
  go_step3
  refine once_goto ?_
  go_wp2_with fail
  refine noGoto_ret' ?_
  obtain ⟨hb, ho⟩ := put_rep B1.out rfl (.int .i64 0) (.int .u32 0) (.bool false) (.string ⟨#[]⟩) rfl
  exact ret_end _ _ (w.heap.size + 1) 0 0 false false ⟨#[]⟩ rfl rfl rfl hb ⟨rfl, G1.out.below.trans ((ho.below (B := w.heap.size) (fun b e => by omega) G1.out.size))⟩

set_option maxRecDepth 100000 in
set_option maxHeartbeats 1000000 in
theorem apply_known {w0 w : World} {F : List Nat} {B bv bl bd : Nat} {acc : List Cm} (h : SS w0 w F B bv bl bd acc) (x : Cm) (hf : x.Fit) (hx : rightC x = true) (hx0 : ¬ x.o = 0) (y : Rp) (hy : knownOf acc x.c x.s = some y) :
    Calls Try.prog 12 #[.pointer (some ⟨B, 0, none⟩), x.val] w fun e w' => e = .returned (.tuple #[Rp.zero.val, .bool false]) ∧ Below w.heap.size w w' := by
  obtain ⟨k0, k1, hg, hs⟩ := begun x w
  have R := hide (fun W => right_any x W true hx)
  have K0 := hide k0
  have K1 := hide k1
  have G := hide hg
  have H := hide h
  have KN := hide (fun W (h : SS w0 W F B bv bl bd acc) => known_yes h x.c x.s hf.c hf.s y hy)
  have q0 : (x.o == 0) = false := beq_eq_false_iff_ne.2 hx0
  clear k0 k1 hg hs h hx hy hf hx0
  unfold Cm.val at R ⊢
  unfold Rp.val Rp.zero
  unfold Rp.val at KN
  go_enter Try.func12, Try.ntmps12
  go_wp2_with fail
  refine wp_scope_once 0 rfl ?_
  go_wp2_with fail
  refine (R.out _).mono ?_
  rintro e w1 ⟨rfl, g1⟩
  have G1 := hide (G.out.trans g1)
  have b1 := K1.out.gr g1
  have a1 := K0.out.gr g1
  have x0 : w1.cell? ⟨w.heap.size, 0, none⟩ = some (.int .i64 x.o) := (a1.cell 0).trans rfl
  have x1 : w1.cell? ⟨w.heap.size, 1, none⟩ = some (.int .i64 x.c) := (a1.cell 1).trans rfl
  have x2 : w1.cell? ⟨w.heap.size, 2, none⟩ = some (.int .u32 x.s) := (a1.cell 2).trans rfl
  have B1 := hide b1
  clear b1 g1 a1
  go_wp2_with fail
  refine (KN.out _ (H.out.gr G1.out)).mono ?_
  rintro e w2 ⟨rfl, g2⟩
  have G2 := hide (G1.out.trans (g2.alloc (.cells #[.int .i64 y.c, .int .u32 y.s, .bool y.f, .string y.v] 38)))
  have b2 := (B1.out.gr g2).alloc (.cells #[.int .i64 y.c, .int .u32 y.s, .bool y.f, .string y.v] 38)
  have B2 := hide b2
  have f0 := b2.frozen 0
  have f1 := b2.frozen 1
  have f2 := b2.frozen 2
  have f3 := b2.frozen 3
  have z0 := (b2.cell 0).trans rfl
  have z1 := (b2.cell 1).trans rfl
  have z2 := (b2.cell 2).trans rfl
  have z3 := (b2.cell 3).trans rfl
  clear b2 g2
  go_wp2_with fail
  go_step3
  refine once_goto ?_
  go_wp2_with fail
  refine noGoto_ret' ?_
  obtain ⟨hb, ho⟩ := put_rep B2.out rfl (.int .i64 0) (.int .u32 0) (.bool false) (.string ⟨#[]⟩) rfl
  exact ret_end _ _ (w.heap.size + 1) 0 0 false false ⟨#[]⟩ rfl rfl rfl hb ⟨rfl, G2.out.below.trans ((ho.below (B := w.heap.size) (fun b e => by omega) G2.out.size))⟩

end Go.Proofs.Ytfcaneofkdaicaa
