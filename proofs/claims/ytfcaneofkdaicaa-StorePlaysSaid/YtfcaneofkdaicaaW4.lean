/-
  Chapter 16: Apply, when nothing is done: walked.
-/
import Derived.Test.YtfcaneofkdaicaaW3
namespace Go.Proofs.Ytfcaneofkdaicaa
open Go.RowKit Go.Sort Go.Maps

theorem Gr.cell {w w' : World} (h : Gr w w') {b o : Nat} (hb : b < w.heap.size) : w'.cell? ⟨b, o, none⟩ = w.cell? ⟨b, o, none⟩ := h.below.cell (p := ⟨b, o, none⟩) hb
theorem Blk.gr {w w' : World} {g : Nat} {t : TypeId} {cs : Array Value} (h : Blk w g t cs) (hk : Gr w w') : Blk w' g t cs := h.below hk.below h.lt

/-- The world when Apply begins: the command in a box, a place for the reply. -/
theorem begun (x : Cm) (w : World) :
    let W := (w.alloc (.cells #[.int .i64 x.o, .int .i64 x.c, .int .u32 x.s, .string x.k, .string x.v] 33)).alloc (.cells #[.int .i64 0, .int .u32 0, .bool false, .string ⟨#[]⟩] 38)
    Blk W w.heap.size 33 #[.int .i64 x.o, .int .i64 x.c, .int .u32 x.s, .string x.k, .string x.v] ∧ Blk W (w.heap.size + 1) 38 #[.int .i64 0, .int .u32 0, .bool false, .string ⟨#[]⟩] ∧ Gr w W ∧ W.heap.size = w.heap.size + 2 := by
  intro W
  have h := Blk.new (w.alloc (.cells #[.int .i64 x.o, .int .i64 x.c, .int .u32 x.s, .string x.k, .string x.v] 33)) 38 #[.int .i64 0, .int .u32 0, .bool false, .string ⟨#[]⟩]
  rw [World.size_alloc] at h
  exact ⟨(Blk.new w 33 _).alloc _, h, ((Gr.refl w).alloc _).alloc _, by simp [W]⟩

/-- The reply's place is written. -/
theorem put_rep {w1 W : World} {b : Nat} {cs : Array Value} (h : Blk w1 b 38 cs) (hc : cs.size = 4) (v0 v1 v2 v3 : Value)
    (hW : W = (((w1.setCell ⟨b, 0, none⟩ v0).setCell ⟨b, 1, none⟩ v1).setCell ⟨b, 2, none⟩ v2).setCell ⟨b, 3, none⟩ v3) :
    Blk W b 38 #[v0, v1, v2, v3] ∧ Only (fun i => i = b) w1 W := by
  subst hW
  obtain ⟨l⟩ := cs
  obtain ⟨c0, c1, c2, c3, rfl⟩ : ∃ c0 c1 c2 c3, l = [c0, c1, c2, c3] := by
    match l, hc with
    | [c0, c1, c2, c3], _ => exact ⟨_, _, _, _, rfl⟩
  refine ⟨(((h.set_ 0 v0).set_ 1 v1).set_ 2 v2).set_ 3 v3, ⟨rfl, rfl, rfl, by simp [World.setCell], fun i _ hn => ?_⟩⟩
  have e : ∀ (u : World) (o : Nat) (v : Value), (u.setCell ⟨b, o, none⟩ v).heap[i]? = u.heap[i]? := fun u o v => Below.heap_setCell u ⟨b, o, none⟩ v i hn
  rw [e, e, e, e]

theorem ret_end {Post : Ending → World → Prop} (a : Act) (W : World) (b : Nat) (c s : Int) (f r : Bool) (v : ByteArray) (hd : a.defers = []) (h4 : a.tmps[4]? = some (.pointer (some ⟨b, 0, none⟩))) (h5 : a.tmps[5]? = some (.bool r))
    (hb : Blk W b 38 #[.int .i64 c, .int .u32 s, .bool f, .string v])
    (hP : Post (.returned (.tuple #[.agg #[.int .i64 c, .int .u32 s, .bool f, .string v], .bool r])) W) : bodyPost Try.prog Try.f12 Post .ret a W := by
  have e0 : W.cell? ⟨b, 0, none⟩ = some (.int .i64 c) := (hb.cell 0).trans rfl
  have e1 : W.cell? ⟨b, 1, none⟩ = some (.int .u32 s) := (hb.cell 1).trans rfl
  have e2 : W.cell? ⟨b, 2, none⟩ = some (.bool f) := (hb.cell 2).trans rfl
  have e3 : W.cell? ⟨b, 3, none⟩ = some (.string v) := (hb.cell 3).trans rfl
  exact bodyPost_ret (v := .tuple #[.agg #[.int .i64 c, .int .u32 s, .bool f, .string v], .bool r]) (by simp [results, Try.results12, go_sem, h4, h5, e0, e1, e2, e3]) hd hP

set_option maxRecDepth 100000 in
set_option maxHeartbeats 1000000 in
theorem apply_wrong {w0 w : World} {F : List Nat} {B bv bl bd : Nat} {acc : List Cm} (h : SS w0 w F B bv bl bd acc) (x : Cm) (hx : rightC x = false) :
    Calls Try.prog 12 #[.pointer (some ⟨B, 0, none⟩), x.val] w fun e w' => e = .returned (.tuple #[Rp.zero.val, .bool false]) ∧ Below w.heap.size w w' := by
  obtain ⟨k0, k1, hg, hs⟩ := begun x w
  have R := hide (fun W => right_any x W false hx)
  have K0 := hide k0
  have K1 := hide k1
  have G := hide hg
  have HS := hide hs
  clear k0 k1 hg hs h hx
  unfold Cm.val at R ⊢
  unfold Rp.val Rp.zero
  go_enter Try.func12, Try.ntmps12
  go_wp2_with fail
  refine wp_scope_once 0 rfl ?_
  go_wp2_with fail
  refine (R.out _).mono ?_
  rintro e w1 ⟨rfl, g1⟩
  have G1 := hide (G.out.trans g1)
  have b1 := K1.out.gr g1
  have f0 := b1.frozen 0
  have f1 := b1.frozen 1
  have f2 := b1.frozen 2
  have f3 := b1.frozen 3
  have z0 := (b1.cell 0).trans rfl
  have z1 := (b1.cell 1).trans rfl
  have z2 := (b1.cell 2).trans rfl
  have z3 := (b1.cell 3).trans rfl
  have B1 := hide b1
  clear b1 g1
  go_wp2_with fail
  go_step3
  refine once_goto ?_
  go_wp2_with fail
  refine noGoto_ret' ?_
  obtain ⟨hb, ho⟩ := put_rep B1.out rfl (.int .i64 0) (.int .u32 0) (.bool false) (.string ⟨#[]⟩) rfl
  exact ret_end _ _ (w.heap.size + 1) 0 0 false false ⟨#[]⟩ rfl rfl rfl hb ⟨rfl, G1.out.below.trans ((ho.below (B := w.heap.size) (fun b e => by omega) G1.out.size))⟩


end Go.Proofs.Ytfcaneofkdaicaa
