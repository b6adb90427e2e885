/-
  Chapter 16: a store in the midst of Apply.
-/
import Derived.Test.YtfcaneofkdaicaaW6
namespace Go.Proofs.Ytfcaneofkdaicaa
open Go.RowKit Go.Sort Go.Maps

def storeT (bv bl bd : Nat) : Array Value := #[.map (some bv), .map (some bl), .map (some bd)]

/-- In the midst of Apply: begun at w, the command in its box, the reply so far at its place. -/
structure Mid (w0 w W : World) (F : List Nat) (B bv bl bd : Nat) (vals : List (ByteArray × ByteArray)) (logs : List (ByteArray × List Cm)) (dones : List Rp) (x : Cm) (y : Rp) : Prop where
  only : Only (· ∈ F) w W
  blk : Blk W B 71 #[.map (some bv), .map (some bl), .map (some bd)]
  mv : MapIs Try.prog 9 W bv (vals.map valE)
  lg : ∃ gs, LogsAt W w0.heap.size bl gs logs ∧ ∀ z ∈ gs, z.g ∈ F ∨ (w.heap.size + 2 ≤ z.g)
  md : MapIs Try.prog 74 W bd (dones.map repE)
  box : Blk W w.heap.size 33 #[.int .i64 x.o, .int .i64 x.c, .int .u32 x.s, .string x.k, .string x.v]
  rep : Blk W (w.heap.size + 1) 38 #[.int .i64 y.c, .int .u32 y.s, .bool y.f, .string y.v]
  big : w.heap.size + 2 ≤ W.heap.size

section
variable {w0 w W W' : World} {F : List Nat} {B bv bl bd : Nat} {vals : List (ByteArray × ByteArray)} {logs : List (ByteArray × List Cm)} {dones : List Rp} {x : Cm} {y : Rp} {acc : List Cm}

theorem LogsAt.grown {base : Nat} {gs : List Lg} {row : Option Nat} (h : LogsAt w base bl gs logs) (hk : w.grownBy W row) (hb : some bl ≠ row) (hg : ∀ z ∈ gs, some z.g ≠ row) : LogsAt W base bl gs logs :=
  ⟨h.eq, h.map.grown hk hb, fun z hz => own_grown (h.own z hz) hk (.inr (hg z hz)), h.ne, h.nodup⟩
theorem LogsAt.not_map {base : Nat} {gs : List Lg} {k : TypeId} {b : Nat} {m : List (Value × Value)} (h : LogsAt w base bl gs logs) (hm : MapIs Try.prog k w b m) : ∀ z ∈ gs, some z.g ≠ some b :=
  fun z hz e => own_map_ne (h.own z hz) hm e.symm

theorem Mid.grown {row : Option Nat} (h : Mid w0 w W F B bv bl bd vals logs dones x y) (hs : SS w0 w F B bv bl bd acc) (hk : W.grownBy W' row) (hr : row = none) : Mid w0 w W' F B bv bl bd vals logs dones x y := by
  subst hr
  obtain ⟨gs, h1, h2⟩ := h.lg
  exact ⟨h.only.trans (Only.of_grown (S := fun _ => False) hk (by simp)) (fun _ e => e.elim), h.blk.grown hk (by simp), h.mv.grown hk (by simp), ⟨gs, h1.grown hk (by simp) (by simp), h2⟩, h.md.grown hk (by simp), h.box.grown hk (by simp), h.rep.grown hk (by simp), Nat.le_trans h.big hk.size⟩
theorem Mid.gr (h : Mid w0 w W F B bv bl bd vals logs dones x y) (hs : SS w0 w F B bv bl bd acc) (hk : Gr W W') : Mid w0 w W' F B bv bl bd vals logs dones x y := h.grown hs (below_grown_none hk.below) rfl
/-- The reply's place turns. -/
theorem Mid.put_rep {y' : Rp} (h : Mid w0 w W F B bv bl bd vals logs dones x y) (hs : SS w0 w F B bv bl bd acc) (hk : Only (fun i => i = w.heap.size + 1) W W')
    (hy : Blk W' (w.heap.size + 1) 38 #[.int .i64 y'.c, .int .u32 y'.s, .bool y'.f, .string y'.v]) : Mid w0 w W' F B bv bl bd vals logs dones x y' := by
  obtain ⟨gs, h1, h2⟩ := h.lg
  have hF : ∀ b ∈ F, b ≠ w.heap.size + 1 := fun b hb e => by have := hs.flt b hb; omega
  have hB : B ≠ w.heap.size + 1 := fun e => by have := hs.lt; omega
  refine ⟨h.only.trans hk (fun b e => .inr (by omega)), (hk.block B h.blk.lt hB).trans h.blk, h.mv.same (hk.block bv h.mv.lt (hF _ hs.inF.1)), ⟨gs, h1.only hk (hF _ hs.inF.2.1) fun z hz => ?_, h2⟩,
    h.md.same (hk.block bd h.md.lt (hF _ hs.inF.2.2)), (hk.block _ h.box.lt (by omega)).trans h.box, hy, Nat.le_trans h.big hk.size⟩
  rcases h2 z hz with h3 | h3
  · exact hF _ h3
  · omega
theorem Mid.put_v {vals' : List (ByteArray × ByteArray)} (h : Mid w0 w W F B bv bl bd vals logs dones x y) (hs : SS w0 w F B bv bl bd acc) (hk : W.grownBy W' (some bv)) (hm : MapIs Try.prog 9 W' bv (vals'.map valE)) :
    Mid w0 w W' F B bv bl bd vals' logs dones x y := by
  obtain ⟨gs, h1, h2⟩ := h.lg
  have hv := hs.flt bv hs.inF.1
  exact ⟨h.only.trans (Only.of_grown (S := (· ∈ F)) hk (fun g e => by injection e with e; exact .inl (e ▸ hs.inF.1))) (fun b hb => .inl hb), h.blk.grown hk (fun e => h.mv.ne_blk h.blk (by injection e with e; exact e.symm)), hm,
    ⟨gs, h1.grown hk (fun e => hs.vl (by injection e with e; exact e.symm)) (h1.not_map h.mv), h2⟩, h.md.grown hk (fun e => hs.vd (by injection e with e; exact e.symm)), h.box.grown hk (fun e => by injection e with e; omega), h.rep.grown hk (fun e => by injection e with e; omega), Nat.le_trans h.big hk.size⟩
theorem Mid.put_d {dones' : List Rp} (h : Mid w0 w W F B bv bl bd vals logs dones x y) (hs : SS w0 w F B bv bl bd acc) (hk : W.grownBy W' (some bd)) (hm : MapIs Try.prog 74 W' bd (dones'.map repE)) :
    Mid w0 w W' F B bv bl bd vals logs dones' x y := by
  obtain ⟨gs, h1, h2⟩ := h.lg
  have hv := hs.flt bd hs.inF.2.2
  exact ⟨h.only.trans (Only.of_grown (S := (· ∈ F)) hk (fun g e => by injection e with e; exact .inl (e ▸ hs.inF.2.2))) (fun b hb => .inl hb), h.blk.grown hk (fun e => h.md.ne_blk h.blk (by injection e with e; exact e.symm)), h.mv.grown hk (fun e => hs.vd (by injection e with e)),
    ⟨gs, h1.grown hk (fun e => hs.ld (by injection e with e)) (h1.not_map h.md), h2⟩, hm, h.box.grown hk (fun e => by injection e with e; omega), h.rep.grown hk (fun e => by injection e with e; omega), Nat.le_trans h.big hk.size⟩
/-- A command is appended to its key's log, and that is laid. -/
theorem Mid.put_l {wa wb : World} {gs : List Lg} {v' : Value} (h : Mid w0 w W F B bv bl bd vals logs dones x y) (hs : SS w0 w F B bv bl bd acc) (h1 : LogsAt W w0.heap.size bl gs logs) (h2 : ∀ z ∈ gs, z.g ∈ F ∨ (w.heap.size + 2 ≤ z.g))
    (hn : (logs.map (·.1)).Nodup) (ha : wa.ownsRow w0.heap.size 33 5 v' ((logL gs x.k).length + 1) (cellsL Cm.cells (logL gs x.k ++ [x]))) (hg1 : W.grownBy wa (logV gs x.k).ownBlock)
    (hat : v'.ownBlock = (logV gs x.k).ownBlock ∨ v'.ownBlock = some W.heap.size)
    (hm : MapIs Try.prog 9 wb bl (putP (.string x.k) v' (gs.map Lg.entry))) (hg2 : wa.grownBy wb (some bl)) : Mid w0 w wb F B bv bl bd vals (stepG logs x) dones x y := by
  have hbase : w0.heap.size ≤ W.heap.size := Nat.le_trans hs.bel.size h.only.size
  obtain ⟨gs', h3, h4⟩ := h1.step hn x hbase ha hg1 hat hm hg2
  have hown := h1.own_of x.k
  have hrow : ∀ g, (logV gs x.k).ownBlock = some g → g ∈ F ∨ w.heap.size + 2 ≤ g := by
    intro g e
    rcases h1.at_ x.k with ⟨z, hz, _, e2⟩ | ⟨e2, _⟩
    · rw [e2] at e
      injection e with e
      exact e ▸ h2 z hz
    · rw [e2] at e
      cases e
  have nb : ∀ {g : Nat} {t : TypeId} {cs : Array Value}, Blk W g t cs → ¬ t = 33 → some g ≠ (logV gs x.k).ownBlock := fun hb ht e => own_blk_ne hown hb (fun e2 => ht e2.symm) e.symm
  have hwa : Only (· ∈ F) w wa := h.only.trans (Only.of_grown (S := fun i => i ∈ F ∨ w.heap.size + 2 ≤ i) hg1 (fun g e => .inl (hrow g e))) (fun b hb => by rcases hb with hb | hb; exact .inl hb; exact .inr (by omega))
  have hbl := hs.flt bl hs.inF.2.1
  have hne : some w.heap.size ≠ (logV gs x.k).ownBlock := by
    intro e
    rcases hrow w.heap.size e.symm with h5 | h5
    · have := hs.flt _ h5; omega
    · omega
  refine ⟨hwa.trans (Only.of_grown (S := (· ∈ F)) hg2 (fun g e => by injection e with e; exact .inl (e ▸ hs.inF.2.1))) (fun b hb => .inl hb),
    (h.blk.grown hg1 (nb h.blk (by decide))).grown hg2 (fun e => ?_), (h.mv.grown hg1 (own_map_ne hown h.mv)).grown hg2 (fun e => hs.vl (by injection e with e)), ⟨gs', h3, fun z hz => ?_⟩,
    (h.md.grown hg1 (own_map_ne hown h.md)).grown hg2 (fun e => hs.ld (by injection e with e; exact e.symm)), (h.box.grown hg1 hne).grown hg2 (fun e => by injection e with e; omega),
    (h.rep.grown hg1 (nb h.rep (by decide))).grown hg2 (fun e => by injection e with e; omega), Nat.le_trans h.big (Nat.le_trans hg1.size hg2.size)⟩
  · injection e with e
    exact h1.map.ne_blk h.blk e.symm
  · rcases h4 z hz with ⟨u, hu, e⟩ | e
    · exact e ▸ h2 u hu
    · have := h.big; exact .inr (by omega)

/-- Beside the logs: the store's own block, and the box. -/
theorem Mid.far {wa : World} {gs : List Lg} (h : Mid w0 w W F B bv bl bd vals logs dones x y) (hs : SS w0 w F B bv bl bd acc) (h1 : LogsAt W w0.heap.size bl gs logs) (h2 : ∀ z ∈ gs, z.g ∈ F ∨ (w.heap.size + 2 ≤ z.g)) (k : ByteArray)
    (hg1 : W.grownBy wa (logV gs k).ownBlock) : wa.heap[B]? = W.heap[B]? ∧ wa.heap[w.heap.size]? = W.heap[w.heap.size]? := by
  have hown := h1.own_of k
  have hrow : ∀ g, (logV gs k).ownBlock = some g → g ∈ F ∨ w.heap.size + 2 ≤ g := by
    intro g e
    rcases h1.at_ k with ⟨z, hz, _, e2⟩ | ⟨e2, _⟩
    · rw [e2] at e
      injection e with e
      exact e ▸ h2 z hz
    · rw [e2] at e
      cases e
  refine ⟨hg1.block B h.blk.lt (fun e => own_blk_ne hown h.blk (by decide) e.symm), hg1.block _ h.box.lt fun e => ?_⟩
  rcases hrow w.heap.size e.symm with h5 | h5
  · have := hs.flt _ h5; omega
  · omega
theorem Mid.far2 {wa wb : World} {gs : List Lg} (h : Mid w0 w W F B bv bl bd vals logs dones x y) (hs : SS w0 w F B bv bl bd acc) (h1 : LogsAt W w0.heap.size bl gs logs) (h2 : ∀ z ∈ gs, z.g ∈ F ∨ (w.heap.size + 2 ≤ z.g)) (k : ByteArray)
    (hg1 : W.grownBy wa (logV gs k).ownBlock) (hg2 : wa.grownBy wb (some bl)) : wb.heap[B]? = W.heap[B]? ∧ wb.heap[w.heap.size]? = W.heap[w.heap.size]? := by
  obtain ⟨e1, e2⟩ := h.far hs h1 h2 k hg1
  have hbl := hs.flt bl hs.inF.2.1
  refine ⟨(hg2.block B (Nat.lt_of_lt_of_le h.blk.lt hg1.size) fun e => ?_).trans e1, (hg2.block _ (Nat.lt_of_lt_of_le h.box.lt hg1.size) fun e => by injection e with e; omega).trans e2⟩
  injection e with e
  exact h1.map.ne_blk h.blk e.symm

/-- What a store is when Apply has laid all. -/
theorem Mid.finish (h : Mid w0 w W F B bv bl bd (valsOf (acc ++ [x])) (logsOf (acc ++ [x])) (reps (acc ++ [x])) x y) (hs : SS w0 w F B bv bl bd acc) (hx : newC acc x = true) (hf : x.Fit) :
    ∃ F', SS w0 W F' B bv bl bd (acc ++ [x]) ∧ Only (· ∈ F) w W ∧ ∀ b ∈ F', b ∈ F ∨ w.heap.size ≤ b := by
  obtain ⟨gs, h1, h2⟩ := h.lg
  have hap : applyC acc x = acc ++ [x] := by unfold applyC; rw [if_pos hx]
  refine ⟨F ++ gs.map (·.g), ⟨hs.bel.trans (h.only.below hs.ge hs.bel.size), h.blk, h.mv, ⟨gs, h1, fun z hz => List.mem_append_right _ (List.mem_map.2 ⟨z, hz, rfl⟩)⟩, h.md, hs.vl, hs.vd, hs.ld,
    ⟨List.mem_append_left _ hs.inF.1, List.mem_append_left _ hs.inF.2.1, List.mem_append_left _ hs.inF.2.2⟩, fun b hb => ?_, fun b hb => ?_, fun hb => ?_, hs.gB, hap ▸ hs.ok.apply x, fun z hz => ?_⟩, h.only, fun b hb => ?_⟩
  · rcases List.mem_append.1 hb with hb | hb
    · exact hs.ge b hb
    · obtain ⟨z, hz, rfl⟩ := List.mem_map.1 hb
      exact ((h1.own z hz).lt z.g rfl).1
  · rcases List.mem_append.1 hb with hb | hb
    · exact Nat.lt_of_lt_of_le (hs.flt b hb) h.only.size
    · obtain ⟨z, hz, rfl⟩ := List.mem_map.1 hb
      exact ((h1.own z hz).lt z.g rfl).2
  · rcases List.mem_append.1 hb with hb | hb
    · exact hs.BF hb
    · obtain ⟨z, hz, e⟩ := List.mem_map.1 hb
      exact own_blk_ne (h1.own z hz) h.blk (by decide) (by rw [Lg.own, e])
  · rcases List.mem_append.1 hz with hz | hz
    · exact hs.fit z hz
    · rw [List.mem_singleton.1 hz]; exact hf
  · rcases List.mem_append.1 hb with hb | hb
    · exact .inl hb
    · obtain ⟨z, hz, rfl⟩ := List.mem_map.1 hb
      rcases h2 z hz with h3 | h3
      · exact .inl h3
      · exact .inr (by omega)
/-- Apply has begun: nothing is laid yet. -/
theorem SS.mid (hs : SS w0 w F B bv bl bd acc) {y : Rp} (hk : Only (fun i => i = w.heap.size + 1) w W) (hb : Blk W w.heap.size 33 #[.int .i64 x.o, .int .i64 x.c, .int .u32 x.s, .string x.k, .string x.v])
    (hr : Blk W (w.heap.size + 1) 38 #[.int .i64 y.c, .int .u32 y.s, .bool y.f, .string y.v]) : Mid w0 w W F B bv bl bd (valsOf acc) (logsOf acc) (reps acc) x y := by
  obtain ⟨gs, h1, h2⟩ := hs.lg
  have hF : ∀ b ∈ F, b ≠ w.heap.size + 1 := fun b hb e => by have := hs.flt b hb; omega
  have hB : B ≠ w.heap.size + 1 := fun e => by have := hs.lt; omega
  exact ⟨⟨hk.os, hk.tape, hk.output, hk.size, fun i hi _ => hk.block i hi (by omega)⟩, (hk.block B hs.blk.lt hB).trans hs.blk, hs.mv.same (hk.block bv hs.mv.lt (hF _ hs.inF.1)), ⟨gs, h1.only hk (hF _ hs.inF.2.1) fun z hz => hF _ (h2 z hz), fun z hz => .inl (h2 z hz)⟩,
    hs.md.same (hk.block bd hs.md.lt (hF _ hs.inF.2.2)), hb, hr, by have := hr.lt; omega⟩
end

theorem Mid.ss {w0 w W : World} {F : List Nat} {B bv bl bd : Nat} {x : Cm} {y : Rp} {acc : List Cm} (h : Mid w0 w W F B bv bl bd (valsOf acc) (logsOf acc) (reps acc) x y) (hs : SS w0 w F B bv bl bd acc) : ∃ F', SS w0 W F' B bv bl bd acc := by
  obtain ⟨gs, h1, h2⟩ := h.lg
  refine ⟨F ++ gs.map (·.g), ⟨hs.bel.trans (h.only.below hs.ge hs.bel.size), h.blk, h.mv, ⟨gs, h1, fun z hz => List.mem_append_right _ (List.mem_map.2 ⟨z, hz, rfl⟩)⟩, h.md, hs.vl, hs.vd, hs.ld,
    ⟨List.mem_append_left _ hs.inF.1, List.mem_append_left _ hs.inF.2.1, List.mem_append_left _ hs.inF.2.2⟩, fun b hb => ?_, fun b hb => ?_, fun hb => ?_, hs.gB, hs.ok, hs.fit⟩⟩
  · rcases List.mem_append.1 hb with hb | hb
    · exact hs.ge b hb
    · obtain ⟨z, hz, rfl⟩ := List.mem_map.1 hb
      exact ((h1.own z hz).lt z.g rfl).1
  · rcases List.mem_append.1 hb with hb | hb
    · exact Nat.lt_of_lt_of_le (hs.flt b hb) h.only.size
    · obtain ⟨z, hz, rfl⟩ := List.mem_map.1 hb
      exact ((h1.own z hz).lt z.g rfl).2
  · rcases List.mem_append.1 hb with hb | hb
    · exact hs.BF hb
    · obtain ⟨z, hz, e⟩ := List.mem_map.1 hb
      exact own_blk_ne (h1.own z hz) h.blk (by decide) (by rw [Lg.own, e])

/-- Two cells of the reply's place are written. -/
theorem put_two {w1 W : World} {b : Nat} {v0 v1 v2 v3 : Value} (h : Blk w1 b 38 #[v0, v1, v2, v3]) (u3 u2 : Value)
    (hW : W = (w1.setCell ⟨b, 3, none⟩ u3).setCell ⟨b, 2, none⟩ u2) : Blk W b 38 #[v0, v1, u2, u3] ∧ Only (fun i => i = b) w1 W := by
  subst hW
  refine ⟨(h.set_ 3 u3).set_ 2 u2, ⟨rfl, rfl, rfl, by simp [World.setCell], fun i _ hn => ?_⟩⟩
  have e : ∀ (u : World) (o : Nat) (v : Value), (u.setCell ⟨b, o, none⟩ v).heap[i]? = u.heap[i]? := fun u o v => Below.heap_setCell u ⟨b, o, none⟩ v i hn
  rw [e, e]

theorem putP_reps {acc : List Cm} {c s : Int} (h : knownOf acc c s = none) (y : Rp) (hc : y.c = c) (hs : y.s = s) : putP (askV c s) y.val ((reps acc).map repE) = (reps acc ++ [y]).map repE := by
  rw [putP_none, List.map_append]
  · subst hc hs; rfl
  · intro e he
    obtain ⟨r, hr, rfl⟩ := List.mem_map.1 he
    have := List.find?_eq_none.1 h r hr
    intro e2
    exact this (by unfold Rp.asks; exact decide_eq_true (askV_inj.1 e2))

theorem cmd_info : (Try.prog.info? 33).map (fun i => (i.zero, i.size, i.bytes)) = some (some Cm.zero.val, 5, 56) := by kernel_rfl
theorem cmd_len (x : Cm) : x.cells.length = 5 := rfl
theorem cmd_one (x : Cm) : ∀ v ∈ x.cells, v.oneCell' = true := by
  intro v hv
  simp only [Cm.cells, List.mem_cons, List.not_mem_nil, or_false] at hv
  rcases hv with rfl | rfl | rfl | rfl | rfl <;> rfl
theorem reads_new (w : World) (x : Cm) : Reads (w.alloc (.cells #[.int .i64 x.o, .int .i64 x.c, .int .u32 x.s, .string x.k, .string x.v] 33)) (w.heap.size + 1) 5 (some ⟨w.heap.size, 0, none⟩) 1 x.cells := by
  refine ⟨rfl, fun _ => ⟨_, rfl, Nat.lt_succ_self _, fun j u hu => ?_⟩⟩
  rw [show (⟨w.heap.size, 0, none⟩ : Addr).add j = ⟨w.heap.size, j, none⟩ from by unfold Addr.add; split <;> simp_all, (Blk.new w 33 _).cell j]
  exact (List.getElem?_toArray (xs := x.cells)).trans hu

end Go.Proofs.Ytfcaneofkdaicaa
