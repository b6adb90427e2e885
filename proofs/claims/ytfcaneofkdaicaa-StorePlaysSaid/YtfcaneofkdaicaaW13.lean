/-
  Chapter 16: a command by its parts: walked.
-/
import Derived.Test.YtfcaneofkdaicaaW12
namespace Go.Proofs.Ytfcaneofkdaicaa
open Go.RowKit Go.Sort Go.Maps Go.Shelf

def wishV (o c s : Int) (k v : ByteArray) (own : Bool) : Value := .agg #[.int .i64 o, .int .i64 c, .int .u32 s, .string k, .string v, .bool own]

set_option maxHeartbeats 1000000 in
theorem wish_raw (o c s : Int) (k v : ByteArray) (w : World) : Calls Try.prog 11 #[wishV o c s k v false] w fun e w' => e = .returned (Cm.val ⟨o, c, s, k, v⟩) ∧ Gr w w' := by
  unfold wishV Cm.val
  go_enter Try.func11, Try.ntmps11
  go_wp2_with fail
  exact bodyPost_ret (v := .agg #[.int .i64 o, .int .i64 c, .int .u32 s, .string k, .string v]) (by simp [results, Try.results11, go_sem]) rfl ⟨rfl, ((Gr.refl w).alloc _).alloc _⟩

theorem blk_at {W : World} (t : TypeId) (cs : Array Value) {g : Nat} (hg : g = W.heap.size) : Blk (W.alloc (.cells cs t)) g t cs := hg ▸ Blk.new W t cs
theorem slice_at (v : ByteArray) (V : ByteArray) (W : World) (hV : v.extract 0 (min v.size 8) = V) : (Instr.slice 9 (.string v) none (some (.int .i64 (min (v.size : Int) 8))) none).run Try.prog W = .ok (.string V) W := by
  rw [run_slice_string_h W 9 v Try.underlying9 .i64 (min (v.size : Int) 8) (by omega) (by omega), ← hV]
  congr 3
  omega
theorem only_one (w : World) (b o : Nat) (v : Value) : Only (fun i => i = b) w (w.setCell ⟨b, o, none⟩ v) :=
  ⟨rfl, rfl, rfl, by simp [World.setCell], fun i _ hn => Below.heap_setCell w ⟨b, o, none⟩ v i hn⟩
theorem Only.then_ {S : Nat → Prop} {a b c : World} (h : Only S a b) (k : Only S b c) : Only S a c := h.trans k fun _ e => .inl e
theorem five_set (c0 c1 c2 c3 c4 v0 v1 v2 v3 v4 : Value) : (((((#[c0, c1, c2, c3, c4] : Array Value).setIfInBounds 0 v0).setIfInBounds 1 v1).setIfInBounds 2 v2).setIfInBounds 3 v3).setIfInBounds 4 v4 = #[v0, v1, v2, v3, v4] := by
  apply Array.toList_inj.1
  simp only [Array.toList_setIfInBounds, List.set_cons_zero, List.set_cons_succ]
/-- A command's place is written. -/
theorem put5 {w1 W : World} {b : Nat} {c0 c1 c2 c3 c4 : Value} (h : Blk w1 b 33 #[c0, c1, c2, c3, c4]) (v0 v1 v2 v3 v4 : Value)
    (hW : W = ((((w1.setCell ⟨b, 0, none⟩ v0).setCell ⟨b, 1, none⟩ v1).setCell ⟨b, 2, none⟩ v2).setCell ⟨b, 3, none⟩ v3).setCell ⟨b, 4, none⟩ v4) :
    Blk W b 33 #[v0, v1, v2, v3, v4] ∧ Only (fun i => i = b) w1 W := by
  have hb := ((((h.set_ 0 v0).set_ 1 v1).set_ 2 v2).set_ 3 v3).set_ 4 v4
  rw [five_set, ← hW] at hb
  refine ⟨hb, ?_⟩
  rw [hW]
  exact ((((only_one w1 b 0 v0).then_ (only_one _ b 1 v1)).then_ (only_one _ b 2 v2)).then_ (only_one _ b 3 v3)).then_ (only_one _ b 4 v4)
theorem ret5_end {Post : Ending → World → Prop} (a : Act) (W : World) (b : Nat) (o c s : Int) (k v : ByteArray) (hd : a.defers = []) (h2 : a.tmps[2]? = some (.pointer (some ⟨b, 0, none⟩)))
    (hb : Blk W b 33 #[.int .i64 o, .int .i64 c, .int .u32 s, .string k, .string v])
    (hP : Post (.returned (.agg #[.int .i64 o, .int .i64 c, .int .u32 s, .string k, .string v])) W) : bodyPost Try.prog Try.f11 Post .ret a W := by
  have e0 : W.cell? ⟨b, 0, none⟩ = some (.int .i64 o) := (hb.cell 0).trans rfl
  have e1 : W.cell? ⟨b, 1, none⟩ = some (.int .i64 c) := (hb.cell 1).trans rfl
  have e2 : W.cell? ⟨b, 2, none⟩ = some (.int .u32 s) := (hb.cell 2).trans rfl
  have e3 : W.cell? ⟨b, 3, none⟩ = some (.string k) := (hb.cell 3).trans rfl
  have e4 : W.cell? ⟨b, 4, none⟩ = some (.string v) := (hb.cell 4).trans rfl
  exact bodyPost_ret (v := .agg #[.int .i64 o, .int .i64 c, .int .u32 s, .string k, .string v]) (by simp [results, Try.results11, go_sem, h2, e0, e1, e2, e3, e4]) hd hP
theorem only_below {w w1 W : World} {b : Nat} (h : Below w.heap.size w w1) (ho : Only (fun i => i = b) w1 W) (hb : w.heap.size ≤ b) : Below w.heap.size w W := h.trans (ho.below (fun i e => by omega) h.size)
def keyB (s : Int) : ByteArray := ⟨#[UInt8.ofNat (97 + s / 256 % 3).toNat]⟩
/-- A command of few keys and clients. -/
def wishC (o c s : Int) (v : ByteArray) : Cm :=
  if o % 18446744073709551616 % 5 = 0 then Cm.zero
  else if o % 18446744073709551616 % 5 = 1 then ⟨1, 1 + c % 18446744073709551616 % 4, 1 + s % 5, keyB s, v.extract 0 (min v.size 8)⟩
  else if o % 18446744073709551616 % 5 = 4 then ⟨1, 1 + c % 18446744073709551616 % 4, 1 + s % 5, keyB s, ⟨#[]⟩⟩
  else ⟨o % 18446744073709551616 % 5, 1 + c % 18446744073709551616 % 4, 1 + s % 5, keyB s, ⟨#[]⟩⟩

theorem conv_one (W : World) (g : Nat) (z : Int) (hz : 0 ≤ z ∧ z ≤ 255) (h : W.cell? ⟨g, 0, none⟩ = some (.int .u8 z)) :
    (convert 63 9 (.slice (some ⟨g, 0, none⟩) 1 1)).run Try.prog W = .ok (.string ⟨#[UInt8.ofNat z.toNat]⟩) W := by
  have e : ((UInt8.ofNat z.toNat).toNat : Int) = z := by
    rw [UInt8.toNat_ofNat_of_lt' (by show z.toNat < 256; omega)]
    omega
  have := run_convert_bytes_back (P := Try.prog) W 63 9 5 ⟨g, 0, none⟩ 1 [UInt8.ofNat z.toNat] Try.underlying63 Try.underlying5 Try.underlying9 (by
    intro j hj
    have hj0 : j = 0 := by simpa using hj
    subst hj0
    rw [show (⟨g, 0, none⟩ : Addr).add 0 = ⟨g, 0, none⟩ from rfl, h]
    show some (Value.int .u8 z) = some (.int .u8 ((UInt8.ofNat z.toNat).toNat : Int))
    rw [e])
  exact this

set_option maxRecDepth 100000 in
set_option maxHeartbeats 8000000 in
theorem wish_reg (o c s : Int) (k v : ByteArray) (w : World) (p cc s5 s3 : Int) (V : ByteArray) (y : Cm)
    (q1 : (IntKind.u64.wrap o).tmod 5 = p) (q2 : IntKind.i64.wrap p = p) (q3 : (IntKind.u64.wrap c).tmod 4 = cc) (q4 : IntKind.i64.wrap cc = cc) (q5 : IntKind.i64.wrap (1 + cc) = 1 + cc) (q6 : s.tmod 5 = s5) (q7 : IntKind.u32.wrap (1 + s5) = 1 + s5)
    (q8 : (s / 256).tmod 3 = s3) (q9 : IntKind.u8.wrap s3 = s3) (q10 : IntKind.u8.wrap (97 + s3) = 97 + s3) (h3 : 0 ≤ s3 ∧ s3 ≤ 2) (hV : v.extract 0 (min v.size 8) = V)
    (hy : (p = 0 ∧ y = Cm.zero) ∨ (p = 1 ∧ y = ⟨1, 1 + cc, 1 + s5, ⟨#[UInt8.ofNat (97 + s3).toNat]⟩, V⟩) ∨ (p = 2 ∧ y = ⟨2, 1 + cc, 1 + s5, ⟨#[UInt8.ofNat (97 + s3).toNat]⟩, ⟨#[]⟩⟩) ∨ (p = 3 ∧ y = ⟨3, 1 + cc, 1 + s5, ⟨#[UInt8.ofNat (97 + s3).toNat]⟩, ⟨#[]⟩⟩) ∨ (p = 4 ∧ y = ⟨1, 1 + cc, 1 + s5, ⟨#[UInt8.ofNat (97 + s3).toNat]⟩, ⟨#[]⟩⟩)) :
    Calls Try.prog 11 #[wishV o c s k v true] w fun e w' => e = .returned y.val ∧ Below w.heap.size w w' := by
  unfold wishV
  have bx := (Blk.new w 35 #[.int .i64 o, .int .i64 c, .int .u32 s, .string k, .string v, .bool true]).alloc (.cells #[.int .i64 0, .int .i64 0, .int .u32 0, .string ⟨#[]⟩, .string ⟨#[]⟩] 33)
  have KK : Hid (∀ W' : World, W'.heap[w.heap.size]? = ((w.alloc (.cells #[.int .i64 o, .int .i64 c, .int .u32 s, .string k, .string v, .bool true] 35)).alloc (.cells #[.int .i64 0, .int .i64 0, .int .u32 0, .string ⟨#[]⟩, .string ⟨#[]⟩] 33)).heap[w.heap.size]? →
      W'.cell? ⟨w.heap.size, 0, none⟩ = some (.int .i64 o) ∧ W'.cell? ⟨w.heap.size, 1, none⟩ = some (.int .i64 c) ∧ W'.cell? ⟨w.heap.size, 2, none⟩ = some (.int .u32 s) ∧ W'.cell? ⟨w.heap.size, 4, none⟩ = some (.string v)) := by
    intro W' h
    have b := (show Blk W' w.heap.size _ _ from h.trans bx)
    exact ⟨(b.cell 0).trans rfl, (b.cell 1).trans rfl, (b.cell 2).trans rfl, (b.cell 4).trans rfl⟩
  clear bx
  have cv := fun (W : World) (g : Nat) (h : W.cell? ⟨g, 0, none⟩ = some (.int .u8 (97 + s3))) => conv_one W g (97 + s3) (by omega) h
  obtain ⟨kb, hkb⟩ : ∃ kb : ByteArray, kb = ⟨#[UInt8.ofNat (97 + s3).toNat]⟩ := ⟨_, rfl⟩
  rw [← hkb] at cv hy
  have HY := hide hy
  have hsl := fun (W : World) => slice_at v V W hV
  clear hkb hy h3 hV
  go_enter Try.func11, Try.ntmps11
  go_wp2_with fail
  go_upto_region 3 with fail
  go_cut [3] (fun u wx => ∃ g, u = .pointer (some ⟨g, 0, none⟩) ∧ Blk wx g 33 #[.int .i64 p, .int .i64 (1 + cc), .int .u32 (1 + s5), .string kb, .string V] ∧ Blk wx (w.heap.size + 1) 33 #[.int .i64 0, .int .i64 0, .int .u32 0, .string ⟨#[]⟩, .string ⟨#[]⟩] ∧ w.heap.size + 2 ≤ g ∧ Gr w wx)
  case first =>
    go_region_held (fun W' => W'.cell? ⟨w.heap.size, 0, none⟩ = some (.int .i64 o) ∧ W'.cell? ⟨w.heap.size, 1, none⟩ = some (.int .i64 c) ∧ W'.cell? ⟨w.heap.size, 2, none⟩ = some (.int .u32 s) ∧ W'.cell? ⟨w.heap.size, 4, none⟩ = some (.string v))
      (first | exact KK.out _ rfl | exact KK.out _ (Below.heap_alloc _ _ _ (by simp only [World.size_alloc]; omega)) | go_keep) (fail)
    all_goals
      go_wp2_with fail
      go_meet
      first
        | exact ⟨_, rfl, (blk_at _ _ (by simp only [World.size_alloc])).drew, ((blk_at (W := w.alloc _) _ _ (by simp only [World.size_alloc])).alloc _).alloc _, by omega, ((((Gr.refl w).alloc _).alloc _).alloc _).alloc _ |>.drew⟩
        | exact ⟨_, rfl, ((blk_at _ _ (by simp only [World.size_alloc])).alloc _).drew, ((blk_at (W := w.alloc _) _ _ (by simp only [World.size_alloc])).alloc _).alloc _, by omega, ((((Gr.refl w).alloc _).alloc _).alloc _).alloc _ |>.drew⟩
  case rest =>
    obtain ⟨g, rfl, hb, hr, hg2, hgr⟩ := hcut
    have Y := HY.out
    have g1 : w.heap.size + 1 ≠ g := by omega
    have hbe := hgr.below
    have G := hide hbe
    clear KK cv hsl HY q2 q3 q4 q5 q6 q7 q8 q9 q10 hgr hbe
    have x0 := (hb.cell 0).trans rfl
    have x1 := (hb.cell 1).trans rfl
    have x2 := (hb.cell 2).trans rfl
    have x3 := (hb.cell 3).trans rfl
    have x4 := (hb.cell 4).trans rfl
    have y0 := hb.frozen 0
    have y4 := hb.frozen 4
    have f0 := hr.frozen 0
    have f1 := hr.frozen 1
    have f2 := hr.frozen 2
    have f3 := hr.frozen 3
    have f4 := hr.frozen 4
    have z0 := (hr.cell 0).trans rfl
    have z1 := (hr.cell 1).trans rfl
    have z2 := (hr.cell 2).trans rfl
    have z3 := (hr.cell 3).trans rfl
    have z4 := (hr.cell 4).trans rfl
    have HB := hide hb
    have HR := hide hr
    clear hb hr
    have hgb : w.heap.size ≤ g := by omega
    rcases Y with ⟨rfl, rfl⟩ | ⟨rfl, rfl⟩ | ⟨rfl, rfl⟩ | ⟨rfl, rfl⟩ | ⟨rfl, rfl⟩
    · clear q1
      go_wp2_with fail
      have hr1 := (HR.out.far (p := ⟨g, 4, none⟩) g1 (.string ⟨#[]⟩))
      have hb1 := (hide (G.out.setCell (p := ⟨g, 4, none⟩) hgb (.string ⟨#[]⟩))).out
      obtain ⟨hb, ho⟩ := put5 hr1 (.int .i64 0) (.int .i64 0) (.int .u32 0) (.string ⟨#[]⟩) (.string ⟨#[]⟩) rfl
      exact ret5_end _ _ (w.heap.size + 1) 0 0 0 ⟨#[]⟩ ⟨#[]⟩ rfl rfl hb ⟨rfl, only_below hb1 ho (by omega)⟩
    · clear q1
      go_wp2_with fail
      have hr1 := HR.out
      have hb1 := G.out
      obtain ⟨hb, ho⟩ := put5 hr1 (.int .i64 1) (.int .i64 (1 + cc)) (.int .u32 (1 + s5)) (.string kb) (.string V) rfl
      exact ret5_end _ _ (w.heap.size + 1) 1 (1 + cc) (1 + s5) kb V rfl rfl hb ⟨rfl, only_below hb1 ho (by omega)⟩
    · clear q1
      go_wp2_with fail
      have hr1 := (HR.out.far (p := ⟨g, 4, none⟩) g1 (.string ⟨#[]⟩))
      have hb1 := (hide (G.out.setCell (p := ⟨g, 4, none⟩) hgb (.string ⟨#[]⟩))).out
      obtain ⟨hb, ho⟩ := put5 hr1 (.int .i64 2) (.int .i64 (1 + cc)) (.int .u32 (1 + s5)) (.string kb) (.string ⟨#[]⟩) rfl
      exact ret5_end _ _ (w.heap.size + 1) 2 (1 + cc) (1 + s5) kb ⟨#[]⟩ rfl rfl hb ⟨rfl, only_below hb1 ho (by omega)⟩
    · clear q1
      go_wp2_with fail
      have hr1 := (HR.out.far (p := ⟨g, 4, none⟩) g1 (.string ⟨#[]⟩))
      have hb1 := (hide (G.out.setCell (p := ⟨g, 4, none⟩) hgb (.string ⟨#[]⟩))).out
      obtain ⟨hb, ho⟩ := put5 hr1 (.int .i64 3) (.int .i64 (1 + cc)) (.int .u32 (1 + s5)) (.string kb) (.string ⟨#[]⟩) rfl
      exact ret5_end _ _ (w.heap.size + 1) 3 (1 + cc) (1 + s5) kb ⟨#[]⟩ rfl rfl hb ⟨rfl, only_below hb1 ho (by omega)⟩
    · clear q1
      go_wp2_with fail
      have hr1 := ((HR.out.far (p := ⟨g, 4, none⟩) g1 (.string ⟨#[]⟩)).far (p := ⟨g, 0, none⟩) g1 (.int .i64 1))
      have hb1 := (hide ((hide (G.out.setCell (p := ⟨g, 4, none⟩) hgb (.string ⟨#[]⟩))).out.setCell (p := ⟨g, 0, none⟩) hgb (.int .i64 1))).out
      obtain ⟨hb, ho⟩ := put5 hr1 (.int .i64 1) (.int .i64 (1 + cc)) (.int .u32 (1 + s5)) (.string kb) (.string ⟨#[]⟩) rfl
      exact ret5_end _ _ (w.heap.size + 1) 1 (1 + cc) (1 + s5) kb ⟨#[]⟩ rfl rfl hb ⟨rfl, only_below hb1 ho (by omega)⟩

end Go.Proofs.Ytfcaneofkdaicaa
