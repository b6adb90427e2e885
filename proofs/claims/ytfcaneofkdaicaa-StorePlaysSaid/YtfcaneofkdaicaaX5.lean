/-
  Chapter 16: Apply, in the document: walked.
-/
import Derived.Test.YtfcaneofkdaicaaX4
namespace Go.Proofs.Ytfcaneofkdaicaa
open Go.RowKit Go.Sort Go.Maps Go.Shelf

/-- What Apply of the document does. -/
def XApplied (w : World) (base xb : Nat) (VL VR : Value) (acc : List Cm) (x : Cm) (e : Ending) (w' : World) : Prop :=
  e = .returned (.tuple #[.agg #[.int .i64 (told acc x).c, .int .u32 (told acc x).s, .bool (told acc x).f, .string (told acc x).v], .bool (newC acc x)]) ∧
  ∃ VL' VR', XR w' base xb VL' VR' (applyC acc x) ∧ Only (fun b => b = xb) w w' ∧ (VL' = VL ∨ ∀ g, VL'.ownBlock = some g → w.heap.size ≤ g) ∧ (VR' = VR ∨ ∀ g, VR'.ownBlock = some g → w.heap.size ≤ g)

theorem told_not {acc : List Cm} {x : Cm} (h : newC acc x = false) : told acc x = Rp.zero ∧ applyC acc x = acc := by
  unfold told applyC
  rw [h]
  exact ⟨rfl, rfl⟩
theorem told_new {acc : List Cm} {x : Cm} (h : newC acc x = true) : told acc x = rep acc x := by unfold told; rw [if_pos h]
theorem xapplied_not {w w' : World} {base xb : Nat} {VL VR : Value} {acc : List Cm} {x : Cm} {e : Ending} (h : XR w base xb VL VR acc) (hn : newC acc x = false) (hb : Below w.heap.size w w') (he : e = .returned (.tuple #[.agg #[.int .i64 0, .int .u32 0, .bool false, .string ⟨#[]⟩], .bool false])) :
    XApplied w base xb VL VR acc x e w' := by
  obtain ⟨h1, h2⟩ := told_not hn
  unfold XApplied
  rw [h1, h2, hn]
  exact ⟨he, VL, VR, h.below hb, Only.of_below _ hb, .inl rfl, .inl rfl⟩

theorem four_set (c0 c1 c2 c3 v0 v1 v2 v3 : Value) : ((((#[c0, c1, c2, c3] : Array Value).setIfInBounds 0 v0).setIfInBounds 1 v1).setIfInBounds 2 v2).setIfInBounds 3 v3 = #[v0, v1, v2, v3] := by
  apply Array.toList_inj.1
  simp only [Array.toList_setIfInBounds, List.set_cons_zero, List.set_cons_succ]
theorem put4 {w1 W : World} {b : Nat} {c0 c1 c2 c3 : Value} (h : Blk w1 b 41 #[c0, c1, c2, c3]) (v0 v1 v2 v3 : Value)
    (hW : W = (((w1.setCell ⟨b, 0, none⟩ v0).setCell ⟨b, 1, none⟩ v1).setCell ⟨b, 2, none⟩ v2).setCell ⟨b, 3, none⟩ v3) :
    Blk W b 41 #[v0, v1, v2, v3] ∧ Only (fun i => i = b) w1 W := by
  have hb := (((h.set_ 0 v0).set_ 1 v1).set_ 2 v2).set_ 3 v3
  rw [four_set, ← hW] at hb
  refine ⟨hb, ?_⟩
  rw [hW]
  exact (((only_one w1 b 0 v0).then_ (only_one _ b 1 v1)).then_ (only_one _ b 2 v2)).then_ (only_one _ b 3 v3)

theorem ret4_end {Post : Ending → World → Prop} (a : Act) (W : World) (b : Nat) (c s : Int) (f : Bool) (v : ByteArray) (r : Bool) (hd : a.defers = []) (h2 : a.tmps[4]? = some (.pointer (some ⟨b, 0, none⟩))) (h3 : a.tmps[5]? = some (.bool r))
    (hb : Blk W b 41 #[.int .i64 c, .int .u32 s, .bool f, .string v])
    (hP : Post (.returned (.tuple #[.agg #[.int .i64 c, .int .u32 s, .bool f, .string v], .bool r])) W) : bodyPost Try.prog Try.f13 Post .ret a W := by
  have e0 : W.cell? ⟨b, 0, none⟩ = some (.int .i64 c) := (hb.cell 0).trans rfl
  have e1 : W.cell? ⟨b, 1, none⟩ = some (.int .u32 s) := (hb.cell 1).trans rfl
  have e2 : W.cell? ⟨b, 2, none⟩ = some (.bool f) := (hb.cell 2).trans rfl
  have e3 : W.cell? ⟨b, 3, none⟩ = some (.string v) := (hb.cell 3).trans rfl
  exact bodyPost_ret (v := .tuple #[.agg #[.int .i64 c, .int .u32 s, .bool f, .string v], .bool r]) (by simp [results, Try.results13, go_sem, h2, h3, e0, e1, e2, e3]) hd hP

set_option maxHeartbeats 4000000 in
theorem xapply_wrong {w : World} {base xb : Nat} {VL VR : Value} {acc : List Cm} (h : XR w base xb VL VR acc) (o c s : Int) (k v : ByteArray) (hlen : acc.length ≤ 1000000) (hn : newC acc ⟨o, c, s, k, v⟩ = false) :
    Calls Try.prog 13 #[.pointer (some ⟨xb, 0, none⟩), .agg #[.int .i64 o, .int .i64 c, .int .u32 s, .string k, .string v]] w (XApplied w base xb VL VR acc ⟨o, c, s, k, v⟩) := by
  have H := hide h
  obtain ⟨rr, hrr⟩ : ∃ rr, rightC ⟨o, c, s, k, v⟩ = rr := ⟨_, rfl⟩
  have RI := hide (fun W => xright_any ⟨o, c, s, k, v⟩ W rr hrr)
  obtain ⟨y, hy⟩ : ∃ y, (knownOf acc c s).getD Rp.zero = y := ⟨_, rfl⟩
  obtain ⟨er, her⟩ : ∃ er : Int, (if (knownOf acc c s).isSome then 0 else 5) = er := ⟨_, rfl⟩
  have KN := hide (fun (W : World) (hx : XR W base xb VL VR acc) => xknown_any hx c s hlen y er hy her)
  have hcase : rr = false ∨ (rr = true ∧ o = 0) ∨ (rr = true ∧ ¬ o = 0 ∧ er = 0) := by
    cases rr with
    | false => exact .inl rfl
    | true =>
      by_cases h0 : o = 0
      · exact .inr (.inl ⟨rfl, h0⟩)
      · refine .inr (.inr ⟨rfl, h0, ?_⟩)
        unfold rightC at hrr
        have hz : zeroB ⟨o, c, s, k, v⟩ = false := decide_eq_false fun e => h0 e.1
        rw [hz, Bool.false_or] at hrr
        unfold newC at hn
        rw [hrr, Bool.true_and, Bool.not_eq_false', ← known_some] at hn
        simp only at hn
        rw [hn] at her
        simpa using her.symm
  have er5 : er = 0 ∨ er = 5 := by rw [← her]; split <;> simp
  have EN := hide (fun (w' : World) (e : Ending) (hb : Below w.heap.size w w') he => xapplied_not (e := e) h hn hb he)
  clear h hrr hy her hn
  go_enter Try.func13, Try.ntmps13
  go_wp2_with fail
  refine (RI.out _).mono ?_
  rintro e w3 ⟨rfl, g3⟩
  have WA := hide ((Gr.refl w).alloc (.cells #[.int .i64 o, .int .i64 c, .int .u32 s, .string k, .string v] 44) |>.alloc (.cells #[.int .i64 0, .int .u32 0, .bool false, .string ⟨#[]⟩] 41))
  have B3 := hide (WA.out.trans g3)
  have b1 := hide (Blk.new w 44 #[.int .i64 o, .int .i64 c, .int .u32 s, .string k, .string v])
  have b1a := hide ((b1.out.gr ((Gr.refl _).alloc (.cells #[.int .i64 0, .int .u32 0, .bool false, .string ⟨#[]⟩] 41))).gr g3)
  have b2a := hide ((blk_at (W := w.alloc (.cells #[.int .i64 o, .int .i64 c, .int .u32 s, .string k, .string v] 44)) 41 #[.int .i64 0, .int .u32 0, .bool false, .string ⟨#[]⟩] (g := w.heap.size + 1) (by simp)).gr g3)
  have c1 : w3.cell? ⟨w.heap.size, 1, none⟩ = some (.int .i64 c) := (b1a.out.cell 1).trans rfl
  have c2 : w3.cell? ⟨w.heap.size, 2, none⟩ = some (.int .u32 s) := (b1a.out.cell 2).trans rfl
  clear g3
  go_wp2_with fail
  refine (KN.out _ (H.out.gr B3.out)).mono ?_
  rintro e w4 ⟨rfl, g4⟩
  have B4 := hide (B3.out.below.trans (g4.mono B3.out.size))
  have b1b := hide (b1a.out.below g4 b1a.out.lt)
  have b2b := hide (b2a.out.below g4 b2a.out.lt)
  have c0 : w4.cell? ⟨w.heap.size, 0, none⟩ = some (.int .i64 o) := (b1b.out.cell 0).trans rfl
  have t0 : w4.cell? ⟨w.heap.size + 1, 0, none⟩ = some (.int .i64 0) := (b2b.out.cell 0).trans rfl
  have t1 : w4.cell? ⟨w.heap.size + 1, 1, none⟩ = some (.int .u32 0) := (b2b.out.cell 1).trans rfl
  have t2 : w4.cell? ⟨w.heap.size + 1, 2, none⟩ = some (.bool false) := (b2b.out.cell 2).trans rfl
  have t3 : w4.cell? ⟨w.heap.size + 1, 3, none⟩ = some (.string ⟨#[]⟩) := (b2b.out.cell 3).trans rfl
  have f0 := b2b.out.frozen 0
  have f1 := b2b.out.frozen 1
  have f2 := b2b.out.frozen 2
  have f3 := b2b.out.frozen 3
  have l1 := b1b.out.lt
  have l2 := b2b.out.lt
  clear g4 c1 c2
  rcases hcase with rfl | ⟨rfl, rfl⟩ | ⟨rfl, ho, rfl⟩
  · go_wp2_with fail
    refine ret4_end _ _ (w.heap.size + 1) 0 0 false ⟨#[]⟩ false ?_ ?_ ?_ ?_ ?_
    · rfl
    · rfl
    · rfl
    · exact (put4 b2b.out _ _ _ _ rfl).1.alloc _
    · exact EN.out _ _ ((only_below B4.out (put4 b2b.out _ _ _ _ rfl).2 (by omega)).trans ((Gr.below ((Gr.refl _).alloc _)).mono (only_below B4.out (put4 b2b.out _ _ _ _ rfl).2 (by omega)).size)) rfl
  · go_wp2_with fail
    refine ret4_end _ _ (w.heap.size + 1) 0 0 false ⟨#[]⟩ false ?_ ?_ ?_ ?_ ?_
    · rfl
    · rfl
    · rfl
    · exact (put4 b2b.out _ _ _ _ rfl).1.alloc _
    · exact EN.out _ _ ((only_below B4.out (put4 b2b.out _ _ _ _ rfl).2 (by omega)).trans ((Gr.below ((Gr.refl _).alloc _)).mono (only_below B4.out (put4 b2b.out _ _ _ _ rfl).2 (by omega)).size)) rfl
  · have ho' : (o == 0) = false := beq_eq_false_iff_ne.2 ho
    go_wp2_with fail
    refine ret4_end _ _ (w.heap.size + 1) 0 0 false ⟨#[]⟩ false ?_ ?_ ?_ ?_ ?_
    · rfl
    · rfl
    · rfl
    · exact (put4 b2b.out _ _ _ _ rfl).1.alloc _
    · exact EN.out _ _ ((only_below B4.out (put4 b2b.out _ _ _ _ rfl).2 (by omega)).trans ((Gr.below ((Gr.refl _).alloc _)).mono (only_below B4.out (put4 b2b.out _ _ _ _ rfl).2 (by omega)).size)) rfl

theorem xapply_end {w we wx w2 wz : World} {base xb n : Nat} {V1 V2 V0 : Value} {L1 L2 : List Value} {acc' : List Cm} (B6 : Below w.heap.size w we) (OM : Only (fun i => i = xb) we wx) (XO : wx.ownsRow we.heap.size 44 5 V1 (n + 1) L1)
    (B2 : Below wx.heap.size wx w2) (O2 : w2.ownsRow wx.heap.size 41 4 V2 (n + 1) L2) (Y2 : Blk w2 xb 31 #[V1, V0]) (hz : Only (fun i => i = w.heap.size + 1) (w2.setCell ⟨xb, 1, none⟩ V2) wz)
    (hbl : w.heap.size + 1 < we.heap.size) (hx : xb < w.heap.size) (hbase : base ≤ w.heap.size) (hgx : base ≤ xb) (e1 : L1 = cellsL Cm.cells acc') (e2 : L2 = cellsL Rp.cells (reps acc')) (hn : n + 1 = acc'.length) :
    XR wz base xb V1 V2 acc' ∧ Only (fun i => i = xb) w wz ∧ (∀ g, V1.ownBlock = some g → w.heap.size ≤ g) ∧ (∀ g, V2.ownBlock = some g → w.heap.size ≤ g) := by
  have s1 := OM.size
  have s0 := B6.size
  have s2 := B2.size
  have g1 : ∀ g, V1.ownBlock = some g → we.heap.size ≤ g := fun g hg => (own_ge XO g hg).1
  have g2 : ∀ g, V2.ownBlock = some g → wx.heap.size ≤ g := fun g hg => (own_ge O2 g hg).1
  have hs := only_one w2 xb 1 V2
  refine ⟨⟨?_, ?_, ?_, fun g hg => ?_, fun g hg => ?_, hgx⟩, ?_, fun g hg => ?_, fun g hg => ?_⟩
  · exact (hz.block xb (by have := (Y2.set_ 1 V2).lt; exact this) (by omega)).trans (Y2.set_ 1 V2)
  · rw [← hn, ← e1]
    exact own_base (own_only (S := fun i => i = w.heap.size + 1) (own_only (S := fun i => i = xb) (own_below XO B2) hs (fun g hg e => by have := g1 g hg; omega)) hz (fun g hg e => by have := g1 g hg; omega)) (by omega)
  · rw [← hn, ← e2]
    exact own_base (own_only (S := fun i => i = w.heap.size + 1) (own_only (S := fun i => i = xb) O2 hs (fun g hg e => by have := g2 g hg; omega)) hz (fun g hg e => by have := g2 g hg; omega)) (by omega)
  · have := g1 g hg; omega
  · have := g2 g hg; omega
  · have k1 : Only (fun i => i = xb) w wx := (Only.of_below _ B6).then_ OM
    have k2 : Only (fun i => i = xb) w (w2.setCell ⟨xb, 1, none⟩ V2) := (k1.then_ (Only.of_below _ B2)).then_ hs
    exact k2.trans hz fun b hb => .inr (by omega)
  · have := g1 g hg; omega
  · have := g2 g hg; omega

set_option maxRecDepth 100000 in
set_option maxHeartbeats 8000000 in
theorem xapply_new {w : World} {base xb : Nat} {VL VR : Value} {acc : List Cm} (h : XR w base xb VL VR acc) (hok : AccOk acc) (hbase : base ≤ w.heap.size) (o c s : Int) (k v : ByteArray) (hlen : acc.length ≤ 1000000) (hn : newC acc ⟨o, c, s, k, v⟩ = true) :
    Calls Try.prog 13 #[.pointer (some ⟨xb, 0, none⟩), .agg #[.int .i64 o, .int .i64 c, .int .u32 s, .string k, .string v]] w (XApplied w base xb VL VR acc ⟨o, c, s, k, v⟩) := by
  have H := hide h
  have hn2 := hn
  unfold newC at hn2
  rw [Bool.and_eq_true, Bool.not_eq_true'] at hn2
  obtain ⟨q1, q2⟩ := hn2
  have hrr : rightC ⟨o, c, s, k, v⟩ = true := by unfold rightC; rw [q1, Bool.or_true]
  have ho : ¬ o = 0 := by
    unfold okC at q1
    have := of_decide_eq_true q1
    simp only at this
    omega
  have ho' : (o == 0) = false := beq_eq_false_iff_ne.2 ho
  have RI := hide (fun W => xright_any ⟨o, c, s, k, v⟩ W true hrr)
  obtain ⟨y, hy⟩ : ∃ y, (knownOf acc c s).getD Rp.zero = y := ⟨_, rfl⟩
  have her : (if (knownOf acc c s).isSome then 0 else 5) = (5 : Int) := by
    rw [known_some, q2]; rfl
  have KN := hide (fun (W : World) (hx : XR W base xb VL VR acc) => xknown_any hx c s hlen y 5 hy her)
  obtain ⟨v0, hv0⟩ : ∃ v0, (valOf acc k).getD ⟨#[]⟩ = v0 := ⟨_, rfl⟩
  obtain ⟨r0, hr0⟩ : ∃ r0, (valOf acc k).isSome = r0 := ⟨_, rfl⟩
  have VN := hide (fun (W : World) (hx : XR W base xb VL VR acc) => xvalue_any hx hok k hlen v0 r0 hv0 hr0)
  have EN : Hid (told acc ⟨o, c, s, k, v⟩ = ⟨c, s, r0, v0⟩ ∧ applyC acc ⟨o, c, s, k, v⟩ = acc ++ [⟨o, c, s, k, v⟩] ∧ newC acc ⟨o, c, s, k, v⟩ = true) := by
    refine ⟨?_, ?_, hn⟩
    · unfold told; rw [if_pos hn]; unfold rep; simp only [hv0, hr0]
    · unfold applyC; rw [if_pos hn]
  obtain ⟨n, hnn⟩ : ∃ n, n = acc.length := ⟨_, rfl⟩
  have NN := hide hnn
  have hn1 : n ≤ 1000000 := by omega
  have hbs := hbase
  have hgx := h.blk.lt
  obtain ⟨AL, cL, hVL, _⟩ := h.lrow
  rw [← hnn] at hVL
  subst hVL
  obtain ⟨AR, cR, hVR, _⟩ := h.rrow
  rw [← hnn] at hVR
  subst hVR
  obtain ⟨i5, hi5, hz50, hz51, hz52⟩ := info_parts xcmd_info
  obtain ⟨i4, hi4, hz40, hz41, hz42⟩ := info_parts xrep_info
  clear h hrr hy her hn q1 q2 hv0 hr0 hnn hlen hok hbase ho
  go_enter Try.func13, Try.ntmps13
  go_wp2_with fail
  refine (RI.out _).mono ?_
  rintro e w3 ⟨rfl, g3⟩
  have WA := hide ((Gr.refl w).alloc (.cells #[.int .i64 o, .int .i64 c, .int .u32 s, .string k, .string v] 44) |>.alloc (.cells #[.int .i64 0, .int .u32 0, .bool false, .string ⟨#[]⟩] 41))
  have B3 := hide (WA.out.trans g3)
  have b1 := hide (Blk.new w 44 #[.int .i64 o, .int .i64 c, .int .u32 s, .string k, .string v])
  have b1a := hide ((b1.out.gr ((Gr.refl _).alloc (.cells #[.int .i64 0, .int .u32 0, .bool false, .string ⟨#[]⟩] 41))).gr g3)
  have b2a := hide ((blk_at (W := w.alloc (.cells #[.int .i64 o, .int .i64 c, .int .u32 s, .string k, .string v] 44)) 41 #[.int .i64 0, .int .u32 0, .bool false, .string ⟨#[]⟩] (g := w.heap.size + 1) (by simp)).gr g3)
  have c1 : w3.cell? ⟨w.heap.size, 1, none⟩ = some (.int .i64 c) := (b1a.out.cell 1).trans rfl
  have c2 : w3.cell? ⟨w.heap.size, 2, none⟩ = some (.int .u32 s) := (b1a.out.cell 2).trans rfl
  clear g3
  go_wp2_with fail
  refine (KN.out _ (H.out.gr B3.out)).mono ?_
  rintro e w4 ⟨rfl, g4⟩
  have B4 := hide ((B3.out.below.trans (g4.mono B3.out.size)).trans ((Gr.below ((Gr.refl w4).alloc (.cells #[.int .i64 y.c, .int .u32 y.s, .bool y.f, .string y.v] 41))).mono (Nat.le_trans B3.out.size g4.size)))
  have b1b := hide ((b1a.out.below g4 b1a.out.lt).alloc (.cells #[.int .i64 y.c, .int .u32 y.s, .bool y.f, .string y.v] 41))
  have b2b := hide ((b2a.out.below g4 b2a.out.lt).alloc (.cells #[.int .i64 y.c, .int .u32 y.s, .bool y.f, .string y.v] 41))
  have c0 : w4.cell? ⟨w.heap.size, 0, none⟩ = some (.int .i64 o) := ((b1a.out.below g4 b1a.out.lt).cell 0).trans rfl
  have c3 : w4.cell? ⟨w.heap.size, 3, none⟩ = some (.string k) := ((b1a.out.below g4 b1a.out.lt).cell 3).trans rfl
  have l1 := (b1a.out.below g4 b1a.out.lt).lt
  clear g4 c1 c2
  go_wp2_with fail
  refine (VN.out _ (H.out.below B4.out)).mono ?_
  rintro e w5 ⟨rfl, g5⟩
  have B5 := hide (B4.out.trans (g5.mono B4.out.size))
  have b1c := hide (b1b.out.below g5 b1b.out.lt)
  have b2c := hide (b2b.out.below g5 b2b.out.lt)
  have c1 : w5.cell? ⟨w.heap.size, 1, none⟩ = some (.int .i64 c) := (b1c.out.cell 1).trans rfl
  have c2 : w5.cell? ⟨w.heap.size, 2, none⟩ = some (.int .u32 s) := (b1c.out.cell 2).trans rfl
  clear g5 c0 c3 l1
  go_upto_region 7 with fail
  have b4 := hide (Blk.new w5 41 #[.int .i64 c, .int .u32 s, .bool r0, .string v0])
  have B6 := hide (B5.out.trans ((Gr.below ((Gr.refl w5).alloc (.cells #[.int .i64 c, .int .u32 s, .bool r0, .string v0] 41))).mono B5.out.size))
  have b1d := hide (b1c.out.alloc (.cells #[.int .i64 c, .int .u32 s, .bool r0, .string v0] 41))
  have b2d := hide (b2c.out.alloc (.cells #[.int .i64 c, .int .u32 s, .bool r0, .string v0] 41))
  generalize w5.alloc (.cells #[.int .i64 c, .int .u32 s, .bool r0, .string v0] 41) = we at *
  obtain ⟨b4n, hb4n⟩ : ∃ b4n, w5.heap.size = b4n := ⟨_, rfl⟩
  rw [hb4n] at b4 ⊢
  have hb4x : xb < b4n := by have := B5.out.size; omega
  clear hb4n c1 c2
  have HX7 := hide (H.out.below B6.out)
  obtain ⟨CL, hCL⟩ : ∃ CL, CL = cellsL Cm.cells acc := ⟨_, rfl⟩
  have HCL := hide hCL
  have OL : Hid (we.ownsRow base 44 5 (.slice AL n cL) n CL) := by
    have := HX7.out.ol
    rw [← NN.out, ← hCL] at this
    exact this
  clear hCL
  go_cut [57] (fun u wx => ∃ (A2 : Option Addr) (c2 : Nat), Hid (Only (fun b => b = xb) we wx) ∧ Hid (Blk wx xb 31 #[.slice A2 (n + 1) c2, .slice AR n cR]) ∧ Hid (wx.ownsRow we.heap.size 44 5 (.slice A2 (n + 1) c2) (n + 1) (CL ++ Cm.cells ⟨o, c, s, k, v⟩)))
  case first =>
    have BA := hide (Gr.below ((Gr.refl we).drew))
    have BB := hide (Gr.below ((Gr.refl we).drew.alloc (.cells #[.int .i64 o, .int .i64 c, .int .u32 s, .string k, .string v] 44)))
    have RD : Hid (∀ W, Below we.heap.size we W → Reads W we.heap.size 5 AL n CL) := fun W hW => (Reads.of_own OL.out).below hW
    have RB : Hid (Reads (we.drew.alloc (.cells #[.int .i64 o, .int .i64 c, .int .u32 s, .string k, .string v] 44)) (we.heap.size + 1) 5 (some ⟨we.heap.size, 0, none⟩) 1 (Cm.cells ⟨o, c, s, k, v⟩)) := Reads.newAt rfl 1 5 rfl rfl
    have RBS : Hid (we.heap.size + 1 ≤ (we.drew.alloc (.cells #[.int .i64 o, .int .i64 c, .int .u32 s, .string k, .string v] 44)).heap.size) := by simp [Hid]
    have hmx0 : 0 + n ≤ maxLen := by simp only [maxLen]; omega
    have hs640 : (0 + n) * 56 ≤ 140737488355328 := by omega
    have hmx : n + 1 ≤ maxLen := by simp only [maxLen]; omega
    have hs64 : (n + 1) * 56 ≤ 140737488355328 := by omega
    have ONE : Hid (∀ u ∈ CL, u.oneCell' = true) := by have := cellsL_oneCell Cm.cells cmd_one acc; rw [← HCL.out] at this; exact this
    have CELLS : Hid (∀ W, Below we.heap.size we W → W.cell? ⟨w.heap.size, 0, none⟩ = some (.int .i64 o) ∧ W.cell? ⟨w.heap.size, 1, none⟩ = some (.int .i64 c) ∧ W.cell? ⟨w.heap.size, 2, none⟩ = some (.int .u32 s) ∧ W.cell? ⟨w.heap.size, 3, none⟩ = some (.string k) ∧ W.cell? ⟨w.heap.size, 4, none⟩ = some (.string v)) := by
      intro W hW
      have b := b1d.out.below hW b1d.out.lt
      exact ⟨(b.cell 0).trans rfl, (b.cell 1).trans rfl, (b.cell 2).trans rfl, (b.cell 3).trans rfl, (b.cell 4).trans rfl⟩
    have XB : Hid (∀ W, Below we.heap.size we W → Blk W xb 31 #[.slice AL n cL, .slice AR n cR]) := fun W hW => (HX7.out.below hW).blk
    have e0 : we.cell? ⟨xb, 0, none⟩ = some (.slice AL n cL) := (HX7.out.blk.cell 0).trans rfl
    obtain ⟨d0, d1, d2, d3, d4⟩ := CELLS.out _ (Below.refl _ _)
    have l1 := b1d.out.lt
    have lx := HX7.out.blk.lt
    go_region_law (first | (refine step_append_any _ rfl (.const (.slice none 0 0)) (.tmp 53) 28 rfl we.heap.size 44 i5 Cm.zero.val 5 56 Try.underlying28 hi5 hz50 hz51 hz52 rfl (by omega) (.slice none 0 0) 0 [] rfl (World.ownsRow_nil _ _ _ _) _ _ n _ CL rfl (RD.out _ BA.out) ONE.out hmx0 hs640 BA.out.size ?_; intro v1 w1 hown0 hgr1 hv1; have hown1 : w1.ownsRow we.heap.size 44 5 v1 n CL := (by simpa using hown0); obtain ⟨A1, c1, rfl, _⟩ := own_slice hown1; have B1 := hide (BA.out.trans ((grown_none_below hgr1).mono BA.out.size)); have C1 := hide (CELLS.out _ B1.out); obtain ⟨d0, d1, d2, d3, d4⟩ := C1.out; have OX := hide (own_gr hown1 ((Gr.refl w1).alloc (.cells #[.int .i64 o, .int .i64 c, .int .u32 s, .string k, .string v] 44))); have RX := hide (show Reads (w1.alloc (.cells #[.int .i64 o, .int .i64 c, .int .u32 s, .string k, .string v] 44)) (w1.heap.size + 1) 5 (some ⟨w1.heap.size, 0, none⟩) 1 (Cm.cells ⟨o, c, s, k, v⟩) from Reads.newAt rfl 1 5 rfl rfl); have BX := hide (B1.out.trans ((Gr.below ((Gr.refl w1).alloc (.cells #[.int .i64 o, .int .i64 c, .int .u32 s, .string k, .string v] 44))).mono B1.out.size)); clear hown0 hown1 hgr1 hv1) | (refine step_append_any _ rfl (.const (.slice none 0 0)) (.tmp 53) 28 rfl we.heap.size 44 i5 Cm.zero.val 5 56 Try.underlying28 hi5 hz50 hz51 hz52 rfl (by omega) (.slice none 0 0) 0 [] rfl (World.ownsRow_nil _ _ _ _) _ _ n _ CL rfl (RD.out _ BB.out) ONE.out hmx0 hs640 BB.out.size ?_; intro v1 w1 hown0 hgr1 hv1; have hown1 : w1.ownsRow we.heap.size 44 5 v1 n CL := (by simpa using hown0); obtain ⟨A1, c1, rfl, _⟩ := own_slice hown1; have BX := hide (BB.out.trans ((grown_none_below hgr1).mono BB.out.size)); have OX := hide hown1; have RX := hide (RB.out.below ((grown_none_below hgr1).mono RBS.out)); clear hown0 hown1 hgr1 hv1) | (refine step_append_any _ rfl (.tmp 54) (.tmp 56) 28 rfl we.heap.size 44 i5 Cm.zero.val 5 56 Try.underlying28 hi5 hz50 hz51 hz52 rfl (by omega) (.slice A1 n c1) n CL rfl OX.out _ _ 1 1 (Cm.cells ⟨o, c, s, k, v⟩) rfl RX.out (cmd_one _) hmx hs64 BX.out.size ?_; intro v2 w2 hown2 hgr2 hv2; obtain ⟨A2, c2, rfl, _⟩ := own_slice hown2; have O2 := hide hown2; have B2 := hide (BX.out.trans (grown_below hgr2 (fun g hg => (own_ge OX.out g hg).1) BX.out.size)); have Y2 := hide (XB.out _ B2.out); have e0 := (Y2.out.cell 0).trans rfl; have f0 := Y2.out.frozen 0; clear hown2 hgr2 hv2))
    all_goals
      go_wp2_with fail
      go_meet
      exact ⟨A2, c2, (Only.of_below _ B2.out).then_ (only_one _ xb 0 _), Y2.out.set_ 0 _, own_only (S := fun b => b = xb) O2.out (only_one _ xb 0 _) (fun g hg e => by have := (own_ge O2.out g hg).1; have := HX7.out.blk.lt; omega)⟩
  case rest =>
    obtain ⟨A7, c7, OM, XK, OW⟩ := hcut
    have hgx' : xb < w.heap.size := hgx
    have bx := HX7.out.gx
    have OR : Hid (wc.ownsRow base 41 4 (.slice AR n cR) n (cellsL Rp.cells (reps acc))) := by
      have h1 := own_only (S := fun b => b = xb) HX7.out.or OM.out (fun g hg => HX7.out.nr g hg)
      rw [← NN.out] at h1
      exact h1
    obtain ⟨CR, hCR⟩ : ∃ CR, CR = cellsL Rp.cells (reps acc) := ⟨_, rfl⟩
    rw [← hCR] at OR
    have HCR := hide hCR
    have b4x : Hid (Blk wc b4n 41 #[.int .i64 c, .int .u32 s, .bool r0, .string v0]) := (OM.out.block b4n b4.out.lt (by omega)).trans b4.out
    have b2x : Hid (Blk wc (w.heap.size + 1) 41 #[.int .i64 0, .int .u32 0, .bool false, .string ⟨#[]⟩]) := (OM.out.block _ b2d.out.lt (by omega)).trans b2d.out
    clear hCR
    have BA := hide (Gr.below ((Gr.refl wc).drew))
    have BB := hide (Gr.below ((Gr.refl wc).drew.alloc (.cells #[.int .i64 c, .int .u32 s, .bool r0, .string v0] 41)))
    have RD : Hid (∀ W, Below wc.heap.size wc W → Reads W wc.heap.size 4 AR n CR) := fun W hW => (Reads.of_own OR.out).below hW
    have RB : Hid (Reads (wc.drew.alloc (.cells #[.int .i64 c, .int .u32 s, .bool r0, .string v0] 41)) (wc.heap.size + 1) 4 (some ⟨wc.heap.size, 0, none⟩) 1 (Rp.cells ⟨c, s, r0, v0⟩)) := Reads.newAt rfl 1 4 rfl rfl
    have RBS : Hid (wc.heap.size + 1 ≤ (wc.drew.alloc (.cells #[.int .i64 c, .int .u32 s, .bool r0, .string v0] 41)).heap.size) := by simp [Hid]
    have hmx0 : 0 + n ≤ maxLen := by simp only [maxLen]; omega
    have hs640 : (0 + n) * 32 ≤ 140737488355328 := by omega
    have hmx : n + 1 ≤ maxLen := by simp only [maxLen]; omega
    have hs64 : (n + 1) * 32 ≤ 140737488355328 := by omega
    have ONE : Hid (∀ u ∈ CR, u.oneCell' = true) := by have := cellsL_oneCell Rp.cells rep_one (reps acc); rw [← HCR.out] at this; exact this
    have CELLS : Hid (∀ W, Below wc.heap.size wc W → W.cell? ⟨b4n, 0, none⟩ = some (.int .i64 c) ∧ W.cell? ⟨b4n, 1, none⟩ = some (.int .u32 s) ∧ W.cell? ⟨b4n, 2, none⟩ = some (.bool r0) ∧ W.cell? ⟨b4n, 3, none⟩ = some (.string v0)) := by
      intro W hW
      have b := b4x.out.below hW b4x.out.lt
      exact ⟨(b.cell 0).trans rfl, (b.cell 1).trans rfl, (b.cell 2).trans rfl, (b.cell 3).trans rfl⟩
    have XB : Hid (∀ W, Below wc.heap.size wc W → Blk W xb 31 #[.slice A7 (n + 1) c7, .slice AR n cR]) := fun W hW => XK.out.below hW XK.out.lt
    have e1 : wc.cell? ⟨xb, 1, none⟩ = some (.slice AR n cR) := (XK.out.cell 1).trans rfl
    obtain ⟨d0, d1, d2, d3⟩ := CELLS.out _ (Below.refl _ _)
    have l1 := b4x.out.lt
    have lx := XK.out.lt
    go_upto_region 8 with fail
    go_region_law (first | (refine step_append_any _ rfl (.const (.slice none 0 0)) (.tmp 64) 29 rfl wc.heap.size 41 i4 Rp.zero.val 4 32 Try.underlying29 hi4 hz40 hz41 hz42 rfl (by omega) (.slice none 0 0) 0 [] rfl (World.ownsRow_nil _ _ _ _) _ _ n _ CR rfl (RD.out _ BA.out) ONE.out hmx0 hs640 BA.out.size ?_; intro v1 w1 hown0 hgr1 hv1; have hown1 : w1.ownsRow wc.heap.size 41 4 v1 n CR := (by simpa using hown0); obtain ⟨A1, c1, rfl, _⟩ := own_slice hown1; have B1 := hide (BA.out.trans ((grown_none_below hgr1).mono BA.out.size)); have C1 := hide (CELLS.out _ B1.out); obtain ⟨d0, d1, d2, d3⟩ := C1.out; have OX := hide (own_gr hown1 ((Gr.refl w1).alloc (.cells #[.int .i64 c, .int .u32 s, .bool r0, .string v0] 41))); have RX := hide (show Reads (w1.alloc (.cells #[.int .i64 c, .int .u32 s, .bool r0, .string v0] 41)) (w1.heap.size + 1) 4 (some ⟨w1.heap.size, 0, none⟩) 1 (Rp.cells ⟨c, s, r0, v0⟩) from Reads.newAt rfl 1 4 rfl rfl); have BX := hide (B1.out.trans ((Gr.below ((Gr.refl w1).alloc (.cells #[.int .i64 c, .int .u32 s, .bool r0, .string v0] 41))).mono B1.out.size)); clear hown0 hown1 hgr1 hv1) | (refine step_append_any _ rfl (.const (.slice none 0 0)) (.tmp 64) 29 rfl wc.heap.size 41 i4 Rp.zero.val 4 32 Try.underlying29 hi4 hz40 hz41 hz42 rfl (by omega) (.slice none 0 0) 0 [] rfl (World.ownsRow_nil _ _ _ _) _ _ n _ CR rfl (RD.out _ BB.out) ONE.out hmx0 hs640 BB.out.size ?_; intro v1 w1 hown0 hgr1 hv1; have hown1 : w1.ownsRow wc.heap.size 41 4 v1 n CR := (by simpa using hown0); obtain ⟨A1, c1, rfl, _⟩ := own_slice hown1; have BX := hide (BB.out.trans ((grown_none_below hgr1).mono BB.out.size)); have OX := hide hown1; have RX := hide (RB.out.below ((grown_none_below hgr1).mono RBS.out)); clear hown0 hown1 hgr1 hv1) | (refine step_append_any _ rfl (.tmp 65) (.tmp 67) 29 rfl wc.heap.size 41 i4 Rp.zero.val 4 32 Try.underlying29 hi4 hz40 hz41 hz42 rfl (by omega) (.slice A1 n c1) n CR rfl OX.out _ _ 1 1 (Rp.cells ⟨c, s, r0, v0⟩) rfl RX.out (rep_one _) hmx hs64 BX.out.size ?_; intro v2 w2 hown2 hgr2 hv2; obtain ⟨A2, c2, rfl, _⟩ := own_slice hown2; have O2 := hide hown2; have B2 := hide (BX.out.trans (grown_below hgr2 (fun g hg => (own_ge OX.out g hg).1) BX.out.size)); have Y2 := hide (XB.out _ B2.out); have e1 := (Y2.out.cell 1).trans rfl; have f1 := Y2.out.frozen 1; clear hown2 hgr2 hv2))
    all_goals
      have K4 := hide ((b4x.out.below B2.out b4x.out.lt).far (p := ⟨xb, 1, none⟩) (by simp; omega) (.slice A2 (n + 1) c2))
      have K2 := hide ((b2x.out.below B2.out b2x.out.lt).far (p := ⟨xb, 1, none⟩) (by simp; omega) (.slice A2 (n + 1) c2))
      have g0 := (K4.out.cell 0).trans rfl
      have g1 := (K4.out.cell 1).trans rfl
      have g2 := (K4.out.cell 2).trans rfl
      have g3 := (K4.out.cell 3).trans rfl
      have t0 := (K2.out.cell 0).trans rfl
      have t1 := (K2.out.cell 1).trans rfl
      have t2 := (K2.out.cell 2).trans rfl
      have t3 := (K2.out.cell 3).trans rfl
      have z0 := K2.out.frozen 0
      have z1 := K2.out.frozen 1
      have z2 := K2.out.frozen 2
      have z3 := K2.out.frozen 3
      go_wp2_with fail
      refine ret4_end _ _ (w.heap.size + 1) c s r0 v0 true ?_ ?_ ?_ ?_ ?_
      · rfl
      · rfl
      · rfl
      · exact (put4 K2.out _ _ _ _ rfl).1
      · have fin := xapply_end (acc' := acc ++ [⟨o, c, s, k, v⟩]) B6.out OM.out OW.out B2.out O2.out Y2.out (put4 K2.out (.int .i64 c) (.int .u32 s) (.bool r0) (.string v0) rfl).2 b2d.out.lt hgx' hbs bx (by rw [cellsL_snoc, HCL.out]) (by rw [reps_snoc, cellsL_snoc, HCR.out, ← told_new EN.out.2.2, EN.out.1]) (by rw [List.length_append, ← NN.out]; rfl)
        unfold XApplied
        rw [EN.out.1, EN.out.2.1, EN.out.2.2]
        exact ⟨rfl, _, _, fin.1, fin.2.1, .inr fin.2.2.1, .inr fin.2.2.2⟩

theorem xapply_any {w : World} {base xb : Nat} {VL VR : Value} {acc : List Cm} (h : XR w base xb VL VR acc) (hok : AccOk acc) (hbase : base ≤ w.heap.size) (x : Cm) (hlen : acc.length ≤ 1000000) :
    Calls Try.prog 13 #[.pointer (some ⟨xb, 0, none⟩), .agg #[.int .i64 x.o, .int .i64 x.c, .int .u32 x.s, .string x.k, .string x.v]] w (XApplied w base xb VL VR acc x) := by
  cases hn : newC acc x with
  | true => exact xapply_new h hok hbase x.o x.c x.s x.k x.v hlen hn
  | false => exact xapply_wrong h x.o x.c x.s x.k x.v hlen hn

end Go.Proofs.Ytfcaneofkdaicaa
