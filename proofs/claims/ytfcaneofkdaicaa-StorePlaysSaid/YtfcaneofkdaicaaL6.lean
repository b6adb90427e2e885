/-
  Chapter 16: StorePlays: walked.
-/
import Derived.Test.YtfcaneofkdaicaaX7
import Derived.Test.YtfcaneofkdaicaaX8
namespace Go.Proofs.Ytfcaneofkdaicaa
open Go.RowKit Go.Sort Go.Maps Go.Shelf

theorem wish_any2 (o c s : Int) (k v : ByteArray) (own : Bool) (w : World) (hf : Cm.Fit ⟨o, c, s, k, v⟩) : ∃ y : Cm, y.Fit ∧ ∀ W : World,
    Calls Try.prog 11 #[.agg #[.int .i64 o, .int .i64 c, .int .u32 s, .string k, .string v, .bool own]] W fun e w' => e = .returned (.agg #[.int .i64 y.o, .int .i64 y.c, .int .u32 y.s, .string y.k, .string y.v]) ∧ Below W.heap.size W w' := by
  cases own with
  | true =>
    refine ⟨wishC o c s v, ?_, fun W => wish_any o c s k v W hf.s _ rfl⟩
    rcases wish_ok o c s v hf.s.1 with h | h
    · rw [h]
      refine ⟨?_, ?_, ?_, ?_, ?_⟩ <;> simp [Cm.zero, Fits, FitsU, ByteArray.size]
    · exact h.2.2.2
  | false => exact ⟨⟨o, c, s, k, v⟩, hf, fun W => (wish_raw o c s k v W).mono fun e w' ⟨he, hg⟩ => ⟨he, hg.below⟩⟩

section
variable {w0 w : World} {F : List Nat} {B bv bl bd xb : Nat} {acc acc' : List Cm} {VL VR : Value} {ks : List Kb}
def PApplied (w0 : World) (B bv bl bd xb : Nat) (acc' acc : List Cm) (VL VR : Value) (ks : List Kb) (y : Rp) (r : Bool) (e : Ending) (w' : World) : Prop :=
  e = .returned (.tuple #[.agg #[.int .i64 y.c, .int .u32 y.s, .bool y.f, .string y.v], .bool r]) ∧ ∃ F', PW w0 w' F' B bv bl bd acc' xb VL VR acc ks
theorem plays_apply (h : PW w0 w F B bv bl bd acc xb VL VR acc ks) (o c s : Int) (k v : ByteArray) (hf : Cm.Fit ⟨o, c, s, k, v⟩) (hlen : acc.length ≤ 1000000) {y : Rp} {r : Bool} (h1 : told acc ⟨o, c, s, k, v⟩ = y) (h2 : newC acc ⟨o, c, s, k, v⟩ = r) (h3 : applyC acc ⟨o, c, s, k, v⟩ = acc') :
    Calls Try.prog 12 #[.pointer (some ⟨B, 0, none⟩), .agg #[.int .i64 o, .int .i64 c, .int .u32 s, .string k, .string v]] w (PApplied w0 B bv bl bd xb acc' acc VL VR ks y r) :=
  (apply_any h.s ⟨o, c, s, k, v⟩ hf hlen).mono fun e w' ⟨he, F', hs, hk, hF⟩ => ⟨by rw [he, h1, h2]; rfl, F', h3 ▸ h.first hs hk hF⟩
def PXApplied (w0 : World) (F : List Nat) (B bv bl bd xb : Nat) (acc' : List Cm) (ks : List Kb) (y : Rp) (r : Bool) (e : Ending) (w' : World) : Prop :=
  e = .returned (.tuple #[.agg #[.int .i64 y.c, .int .u32 y.s, .bool y.f, .string y.v], .bool r]) ∧ ∃ VL' VR', PW w0 w' F B bv bl bd acc' xb VL' VR' acc' ks
theorem plays_xapply (h : PW w0 w F B bv bl bd acc' xb VL VR acc ks) (hok : AccOk acc) (o c s : Int) (k v : ByteArray) (hlen : acc.length ≤ 1000000) {y : Rp} {r : Bool} (h1 : told acc ⟨o, c, s, k, v⟩ = y) (h2 : newC acc ⟨o, c, s, k, v⟩ = r) (h3 : applyC acc ⟨o, c, s, k, v⟩ = acc') :
    Calls Try.prog 13 #[.pointer (some ⟨xb, 0, none⟩), .agg #[.int .i64 o, .int .i64 c, .int .u32 s, .string k, .string v]] w (PXApplied w0 F B bv bl bd xb acc' ks y r) :=
  (xapply_any h.x hok h.s.bel.size ⟨o, c, s, k, v⟩ hlen).mono fun e w' ⟨he, VL', VR', hx, ho, h4, h5⟩ => ⟨by rw [he, h1, h2], VL', VR', h.second (h3 ▸ hx) ho h4 h5⟩
end

set_option maxRecDepth 100000 in
set_option maxHeartbeats 16000000 in
theorem plays_law (A : Option Addr) (n c : Nat) (cl sq : Int) (w : World) (hW : Wishes w A n) (hn : n ≤ 9223372036854775807) (hcl : Fits cl) (hsq : FitsU sq) :
    Calls Try.prog 3 #[.slice A n c, .int .i64 cl, .int .u32 sq] w fun e w' => e = .returned (.bool true) ∧ Below w.heap.size w w' := by
  have HW := hide hW
  obtain ⟨c5, hc5⟩ : ∃ c5, cl.tmod 5 = c5 := ⟨_, rfl⟩
  obtain ⟨s6, hs6⟩ : ∃ s6, sq.tmod 6 = s6 := ⟨_, rfl⟩
  have fc5 : Fits c5 := by
    unfold Fits at hcl ⊢
    have := Int.tmod_lt_of_pos cl (show (0 : Int) < 5 by omega)
    have := Int.lt_tmod_of_pos cl (show (0 : Int) < 5 by omega)
    omega
  have fs6 : FitsU s6 := by
    unfold FitsU at hsq ⊢
    rw [Int.tmod_eq_emod_of_nonneg hsq.1] at hs6
    omega
  have w5 : IntKind.i64.wrap c5 = c5 := by unfold Fits at fc5; exact IntWalk.i64_in _ (by omega)
  have w6 : IntKind.u32.wrap s6 = s6 := by unfold FitsU at fs6; rw [IntKind.wrap_u32]; omega
  have FC := hide fc5
  have FS := hide fs6
  have FCL := hide hcl
  have FSQ := hide hsq
  clear hW fc5 fs6 hcl hsq
  go_enter Try.func3, Try.ntmps3
  go_wp2_with fail
  refine (examples_any _).mono ?_
  rintro e w1 ⟨rfl, hb1⟩
  have B1 := hide hb1
  clear hb1
  go_wp2_with fail
  refine (new_sk w w1 B1.out).mono ?_
  rintro e w2 ⟨F, B, bv, bl, bd, rfl, h2⟩
  have H2 := hide (PW.start h2)
  clear h2
  obtain ⟨xb, hxb⟩ : ∃ xb, w2.heap.size = xb := ⟨_, rfl⟩
  rw [hxb] at H2
  go_wp2_with fail
  clear hxb
  go_loopg [10] (61) (fun q u wr => ∃ (i : Nat) (F : List Nat) (acc : List Cm) (VL VR : Value), u = .int .i64 (i : Int) ∧ i ≤ 60 ∧ i ≤ n ∧ q = 61 - i ∧ Hid (acc.length ≤ i) ∧ Hid (PW w wr F B bv bl bd acc xb VL VR acc []))
  case atStart => exact ⟨0, F, [], _, _, rfl, by omega, by omega, by omega, Nat.le_refl _, H2.out⟩
  case round =>
    obtain ⟨i, F, acc, VL, VR, rfl, hi, hin, rfl, LA, HP⟩ := hrel
    by_cases hgo : i < n ∧ i < 60
    · have i1 : (i : Int) < n := by omega
      have i2 : (i : Int) < 60 := by omega
      have i0 : (0 : Int) ≤ i := by omega
      have hlt : i < n := hgo.1
      have h60 : i < 60 := hgo.2
      clear hgo
      obtain ⟨ab, ao, rfl, hab, o, cc, s, k, v, own, d0, d1, d2, d3, d4, d5, hf⟩ := HW.out i hlt
      have bel := HP.out.s.bel
      have e0 := (bel.cell (p := ⟨ab, ao + i * 6, none⟩) hab).trans d0
      have e1 := (bel.cell (p := ⟨ab, ao + i * 6 + 1, none⟩) hab).trans d1
      have e2 := (bel.cell (p := ⟨ab, ao + i * 6 + 2, none⟩) hab).trans d2
      have e3 := (bel.cell (p := ⟨ab, ao + i * 6 + 3, none⟩) hab).trans d3
      have e4 := (bel.cell (p := ⟨ab, ao + i * 6 + 4, none⟩) hab).trans d4
      have e5 := (bel.cell (p := ⟨ab, ao + i * 6 + 5, none⟩) hab).trans d5
      have hlt2 : ab < wr.heap.size := by have := bel.size; omega
      obtain ⟨y, hyf, hy⟩ := wish_any2 o cc s k v own w hf
      have YF := hide hyf
      have WA := hide hy
      clear d0 d1 d2 d3 d4 d5 bel hf hy hyf
      obtain ⟨yo, yc, ys, yk, yv⟩ := y
      simp only at WA
      go_wp2_with fail
      refine (WA.out _).mono ?_
      rintro e w3 ⟨rfl, g3⟩
      have AOK := hide HP.out.s.ok
      have hl1 : acc.length ≤ 1000000 := by have := LA.out; omega
      obtain ⟨acc', hacc'⟩ : ∃ acc', applyC acc ⟨yo, yc, ys, yk, yv⟩ = acc' := ⟨_, rfl⟩
      obtain ⟨⟨tc, ts, tf, tv⟩, htold⟩ : ∃ td, told acc ⟨yo, yc, ys, yk, yv⟩ = td := ⟨_, rfl⟩
      obtain ⟨nb, hnb⟩ : ∃ nb, newC acc ⟨yo, yc, ys, yk, yv⟩ = nb := ⟨_, rfl⟩
      obtain ⟨ln, hln⟩ : ∃ ln, ln = acc'.length := ⟨_, rfl⟩
      have hla : ln ≤ i + 1 := by rw [hln, ← hacc']; have := applyC_len acc ⟨yo, yc, ys, yk, yv⟩; have := LA.out; omega
      obtain ⟨vv, hvv⟩ : ∃ vv, (valOf acc' yk).getD ⟨#[]⟩ = vv := ⟨_, rfl⟩
      obtain ⟨vr, hvr⟩ : ∃ vr, (valOf acc' yk).isSome = vr := ⟨_, rfl⟩
      obtain ⟨⟨kc, kse, kf, kv⟩, hkn⟩ : ∃ kd, (knownOf acc' c5 s6).getD Rp.zero = kd := ⟨_, rfl⟩
      obtain ⟨er, her⟩ : ∃ er : Int, (if (knownOf acc' c5 s6).isSome then 0 else 5) = er := ⟨_, rfl⟩
      obtain ⟨l, hl⟩ : ∃ l, l = logOf acc' yk := ⟨_, rfl⟩
      obtain ⟨lm, hlm⟩ : ∃ lm, lm = l.length := ⟨_, rfl⟩
      have hlmb : lm ≤ 100 := by rw [hlm, hl]; exact Nat.le_trans (List.length_filter_le _ _) (by rw [← hln]; omega)
      obtain ⟨TX, hTX⟩ : ∃ TX : ByteArray, TX = ⟨(textOf acc').toArray⟩ := ⟨_, rfl⟩
      have hl2 : acc'.length ≤ 1000 := by rw [← hln]; omega
      have hyk := YF.out.k
      have hAOK' : AccOk acc' := by rw [← hacc']; exact HP.out.s.ok.apply _
      have H3 := hide ((HP.out.below g3).box 33 #[.int .i64 yo, .int .i64 yc, .int .u32 ys, .string yk, .string yv])
      have C1 := hide (plays_apply H3.out yo yc ys yk yv YF.out hl1 htold hnb hacc')
      have C2 := hide (fun (W : World) F VL VR ks (h : PW w W F B bv bl bd acc' xb VL VR acc ks) => plays_xapply h AOK.out yo yc ys yk yv hl1 htold hnb hacc')
      have C3 := hide (fun (W : World) F (h : SS w W F B bv bl bd acc') => value_any h yk hyk vv vr hvv hvr)
      have C4 := hide (fun (W : World) VL VR (h : XR W w.heap.size xb VL VR acc') => xvalue_any h hAOK' yk (by omega) vv vr hvv hvr)
      have C5 := hide (fun (W : World) F (h : SS w W F B bv bl bd acc') => known_at h c5 s6 FC.out FS.out hkn her)
      have C6 := hide (fun (W : World) VL VR (h : XR W w.heap.size xb VL VR acc') => xknown_any h c5 s6 (by omega) _ er hkn her)
      have C7 := hide (fun (W : World) F (h : SS w W F B bv bl bd acc') => log_any h yk hyk (by omega))
      have C8 := hide (fun (W : World) VL VR (h : XR W w.heap.size xb VL VR acc') => xlog_any h yk (by omega))
      have C9 := hide (fun (W : World) F (h : SS w W F B bv bl bd acc') => text_any h (by omega))
      have C10 := hide (fun (W : World) VL VR (h : XR W w.heap.size xb VL VR acc') => xtext_any h hAOK' (by omega))
      have C11 := hide (fun (W : World) F (h : SS w W F B bv bl bd acc') => many_any h)
      rw [← hTX] at C9 C10
      rw [← hln] at C11
      rw [← hl] at C7 C8
      have RC := hide (refcmd_any yo yc ys yk yv)
      have R1 := hide (refrep_any tc ts tf tv)
      have R2 := hide (refrep_any kc kse kf kv)
      have hlm' := hlm
      have LNH := hide hln
      have LMH := hide hlm
      clear hl1 hacc' htold hnb hvv hvr hkn her hl hlm hTX hl2 hyk hAOK' hlm' hln g3 e0 e1 e2 e3 e4 e5 hlt2
      go_wp2_with fail
      refine C1.out.mono ?_
      rintro e w4 ⟨rfl, F4, h4⟩
      have H4 := hide (h4.box 38 #[.int .i64 tc, .int .u32 ts, .bool tf, .string tv])
      have k0 := h4.blk (g := w3.heap.size) (t := 33) (cs := #[.int .i64 yo, .int .i64 yc, .int .u32 ys, .string yk, .string yv]) List.mem_cons_self
      have x0 := (k0.cell 0).trans rfl
      have x1 := (k0.cell 1).trans rfl
      have x2 := (k0.cell 2).trans rfl
      have x3 := (k0.cell 3).trans rfl
      have x4 := (k0.cell 4).trans rfl
      have l1 := k0.lt
      clear h4 k0
      go_wp2_with fail
      refine (RC.out _).mono ?_
      rintro e w5 ⟨rfl, g5⟩
      have H5 := hide (H4.out.below g5)
      clear g5 x0 x1 x2 x3 x4 l1
      go_wp2_with fail
      refine (C2.out _ _ _ _ _ H5.out).mono ?_
      rintro e w6 ⟨rfl, VL2, VR2, h6⟩
      have H6 := hide (h6.box 41 #[.int .i64 tc, .int .u32 ts, .bool tf, .string tv])
      have k0 := h6.blk (g := w3.heap.size) (t := 33) (cs := #[.int .i64 yo, .int .i64 yc, .int .u32 ys, .string yk, .string yv]) (List.mem_cons_of_mem _ List.mem_cons_self)
      have x3 := (k0.cell 3).trans rfl
      have l1 := k0.lt
      clear h6 k0
      go_wp2_with fail
      refine (C3.out _ _ H6.out.s).mono ?_
      rintro e w7 ⟨rfl, rfl⟩
      go_wp2_with fail
      refine (C4.out _ _ _ H6.out.x).mono ?_
      rintro e w7 ⟨rfl, g7⟩
      have H7 := hide (H6.out.below g7)
      clear g7 x3 l1
      go_wp2_with fail
      refine (C5.out _ _ H7.out.s).mono ?_
      rintro e w8 ⟨rfl, g8⟩
      have H8 := hide ((H7.out.gr g8).box 38 #[.int .i64 kc, .int .u32 kse, .bool kf, .string kv])
      clear g8
      go_wp2_with fail
      refine (C6.out _ _ _ H8.out.x).mono ?_
      rintro e w9 ⟨rfl, g9⟩
      have h9 := H8.out.below g9
      have H9 := hide (h9.box 41 #[.int .i64 kc, .int .u32 kse, .bool kf, .string kv])
      have k0 := h9.blk (g := w3.heap.size) (t := 33) (cs := #[.int .i64 yo, .int .i64 yc, .int .u32 ys, .string yk, .string yv]) (by simp)
      have x3 := (k0.cell 3).trans rfl
      have l1 := k0.lt
      clear g9 h9 k0
      go_wp2_with fail
      refine (C7.out _ _ H9.out.s).mono ?_
      rintro e w10 ⟨m1, rfl, o10, g10⟩
      have H10 := hide (H9.out.below g10)
      have k0 := H10.out.blk (g := w3.heap.size) (t := 33) (cs := #[.int .i64 yo, .int .i64 yc, .int .u32 ys, .string yk, .string yv]) (by simp)
      have x3 := (k0.cell 3).trans rfl
      have l1 := k0.lt
      rw [← LMH.out] at o10
      obtain ⟨A8, c8, rfl, _⟩ := own_slice o10
      have O10 := hide o10
      clear g10 o10 k0
      go_wp2_with fail
      refine (C8.out _ _ _ H10.out.x).mono ?_
      rintro e wz ⟨m2, rfl, o11, g11⟩
      have H11 := hide (H10.out.below g11)
      have O11 := hide (own_below O10.out g11)
      rw [← LMH.out] at o11
      obtain ⟨A9, c9, rfl, _⟩ := own_slice o11
      have O12 := hide o11
      clear g11 o11 x3 l1
      go_upto_region 20 with fail
      have D1 := fun (W : World) => xdiff_rep tc ts tf tv W
      have D2 := fun (W : World) => xdiff_rep kc kse kf kv W
      obtain ⟨AL, cL, hVL, _⟩ := H11.out.x.lrow
      rw [← LNH.out] at hVL
      subst hVL
      have KK : Hid (∀ W : World, Below wz.heap.size wz W → W.cell? ⟨w4.heap.size, 0, none⟩ = some (.int .i64 tc) ∧ W.cell? ⟨w4.heap.size, 1, none⟩ = some (.int .u32 ts) ∧ W.cell? ⟨w4.heap.size, 2, none⟩ = some (.bool tf) ∧ W.cell? ⟨w4.heap.size, 3, none⟩ = some (.string tv) ∧ W.cell? ⟨w6.heap.size, 0, none⟩ = some (.int .i64 tc) ∧ W.cell? ⟨w6.heap.size, 1, none⟩ = some (.int .u32 ts) ∧ W.cell? ⟨w6.heap.size, 2, none⟩ = some (.bool tf) ∧ W.cell? ⟨w6.heap.size, 3, none⟩ = some (.string tv) ∧ W.cell? ⟨w8.heap.size, 0, none⟩ = some (.int .i64 kc) ∧ W.cell? ⟨w8.heap.size, 1, none⟩ = some (.int .u32 kse) ∧ W.cell? ⟨w8.heap.size, 2, none⟩ = some (.bool kf) ∧ W.cell? ⟨w8.heap.size, 3, none⟩ = some (.string kv) ∧ W.cell? ⟨w9.heap.size, 0, none⟩ = some (.int .i64 kc) ∧ W.cell? ⟨w9.heap.size, 1, none⟩ = some (.int .u32 kse) ∧ W.cell? ⟨w9.heap.size, 2, none⟩ = some (.bool kf) ∧ W.cell? ⟨w9.heap.size, 3, none⟩ = some (.string kv) ∧ W.cell? ⟨xb, 0, none⟩ = some (.slice AL ln cL)) := by
        intro W hW
        have h := H11.out.below hW
        have b1 := h.blk (g := w4.heap.size) (t := 38) (cs := #[.int .i64 tc, .int .u32 ts, .bool tf, .string tv]) (by simp)
        have b2 := h.blk (g := w6.heap.size) (t := 41) (cs := #[.int .i64 tc, .int .u32 ts, .bool tf, .string tv]) (by simp)
        have b3 := h.blk (g := w8.heap.size) (t := 38) (cs := #[.int .i64 kc, .int .u32 kse, .bool kf, .string kv]) (by simp)
        have b4 := h.blk (g := w9.heap.size) (t := 41) (cs := #[.int .i64 kc, .int .u32 kse, .bool kf, .string kv]) (by simp)
        exact ⟨(b1.cell 0).trans rfl, (b1.cell 1).trans rfl, (b1.cell 2).trans rfl, (b1.cell 3).trans rfl, (b2.cell 0).trans rfl, (b2.cell 1).trans rfl, (b2.cell 2).trans rfl, (b2.cell 3).trans rfl, (b3.cell 0).trans rfl, (b3.cell 1).trans rfl, (b3.cell 2).trans rfl, (b3.cell 3).trans rfl, (b4.cell 0).trans rfl, (b4.cell 1).trans rfl, (b4.cell 2).trans rfl, (b4.cell 3).trans rfl, (h.x.blk.cell 0).trans rfl⟩
      have BZ := hide (Gr.below ((Gr.refl wz).drew))
      have tok1 : True := trivial
      go_region_held3 (fun W => W.cell? ⟨w4.heap.size, 0, none⟩ = some (.int .i64 tc) ∧ W.cell? ⟨w4.heap.size, 1, none⟩ = some (.int .u32 ts) ∧ W.cell? ⟨w4.heap.size, 2, none⟩ = some (.bool tf) ∧ W.cell? ⟨w4.heap.size, 3, none⟩ = some (.string tv) ∧ W.cell? ⟨w6.heap.size, 0, none⟩ = some (.int .i64 tc) ∧ W.cell? ⟨w6.heap.size, 1, none⟩ = some (.int .u32 ts) ∧ W.cell? ⟨w6.heap.size, 2, none⟩ = some (.bool tf) ∧ W.cell? ⟨w6.heap.size, 3, none⟩ = some (.string tv) ∧ W.cell? ⟨w8.heap.size, 0, none⟩ = some (.int .i64 kc) ∧ W.cell? ⟨w8.heap.size, 1, none⟩ = some (.int .u32 kse) ∧ W.cell? ⟨w8.heap.size, 2, none⟩ = some (.bool kf) ∧ W.cell? ⟨w8.heap.size, 3, none⟩ = some (.string kv) ∧ W.cell? ⟨w9.heap.size, 0, none⟩ = some (.int .i64 kc) ∧ W.cell? ⟨w9.heap.size, 1, none⟩ = some (.int .u32 kse) ∧ W.cell? ⟨w9.heap.size, 2, none⟩ = some (.bool kf) ∧ W.cell? ⟨w9.heap.size, 3, none⟩ = some (.string kv) ∧ W.cell? ⟨xb, 0, none⟩ = some (.slice AL ln cL))
        (first
          | exact KK.out _ BE.out
          | exact KK.out _ BD.out
          | exact KK.out _ BB.out
          | exact KK.out _ BA.out
          | exact KK.out _ BZ.out)
        ((first
          | (go_at_call 21; have _t := tok1; refine (R1.out _).mono ?_; rintro e wa ⟨rfl, ga⟩; have BA := hide (BZ.out.trans (ga.mono BZ.out.size)); clear ga tok1 _t)
          | (go_at_call 21; refine (R2.out _).mono ?_; rintro e wb ⟨rfl, gb⟩; have BB := hide (BA.out.trans (gb.mono BA.out.size)); clear gb)
          | (go_at_call 22; refine (C11.out _ _ (H11.out.below BB.out).s).mono ?_; rintro e wq ⟨rfl, rfl⟩)
          | (go_at_call 23; refine (C9.out _ _ (H11.out.below BB.out).s).mono ?_; rintro e wd ⟨rfl, gd⟩; have BD := hide (BB.out.trans (gd.mono BB.out.size)); clear gd)
          | (go_at_call 24; refine (C10.out _ _ _ (H11.out.below BD.out).x).mono ?_; rintro e we ⟨rfl, ge⟩; have BE := hide (BD.out.trans (ge.mono BD.out.size)); clear ge)))
      clear D1 D2
      go_wp2_with fail
      have RW1 : Hid (∀ W : World, Below wz.heap.size wz W → ∀ j x, l[j]? = some x → ∃ g, A8 = some ⟨g, 0, none⟩ ∧ g < W.heap.size ∧
          W.cell? ⟨g, j * 5, none⟩ = some (.int .i64 x.o) ∧ W.cell? ⟨g, j * 5 + 1, none⟩ = some (.int .i64 x.c) ∧ W.cell? ⟨g, j * 5 + 2, none⟩ = some (.int .u32 x.s) ∧ W.cell? ⟨g, j * 5 + 3, none⟩ = some (.string x.k) ∧ W.cell? ⟨g, j * 5 + 4, none⟩ = some (.string x.v)) :=
        fun W hW => cmds_at LMH.out.symm (own_below O11.out hW)
      have RW2 : Hid (∀ W : World, Below wz.heap.size wz W → ∀ j x, l[j]? = some x → ∃ g, A9 = some ⟨g, 0, none⟩ ∧ g < W.heap.size ∧
          W.cell? ⟨g, j * 5, none⟩ = some (.int .i64 x.o) ∧ W.cell? ⟨g, j * 5 + 1, none⟩ = some (.int .i64 x.c) ∧ W.cell? ⟨g, j * 5 + 2, none⟩ = some (.int .u32 x.s) ∧ W.cell? ⟨g, j * 5 + 3, none⟩ = some (.string x.k) ∧ W.cell? ⟨g, j * 5 + 4, none⟩ = some (.string x.v)) :=
        fun W hW => cmds_at LMH.out.symm (own_below O12.out hW)
      clear KK
      go_loopg [26] (lm + 1) (fun q u wr => ∃ (j : Nat), u = .int .i64 (j : Int) ∧ j ≤ lm ∧ q = lm + 1 - j ∧ Hid (Below wz.heap.size wz wr))
      case atStart => exact ⟨0, rfl, Nat.zero_le _, rfl, BE.out⟩
      case round =>
        obtain ⟨j, rfl, hj, rfl, HB⟩ := hrel
        by_cases hjl : j < lm
        · have hget : l[j]? = some (l[j]'(by rw [← LMH.out]; exact hjl)) := List.getElem?_eq_getElem _
          obtain ⟨x, hx⟩ : ∃ x, x = (l[j]'(by rw [← LMH.out]; exact hjl)) := ⟨_, rfl⟩
          rw [← hx] at hget
          obtain ⟨g8, rfl, hg8, _⟩ := RW1.out _ HB.out j x hget
          obtain ⟨g9, rfl, hg9, _⟩ := RW2.out _ HB.out j x hget
          obtain ⟨xo, xc, xs, xk, xv⟩ := x
          have KJ : Hid (∀ W : World, Below wz.heap.size wz W → W.cell? ⟨g8, j * 5, none⟩ = some (.int .i64 xo) ∧ W.cell? ⟨g8, j * 5 + 1, none⟩ = some (.int .i64 xc) ∧ W.cell? ⟨g8, j * 5 + 2, none⟩ = some (.int .u32 xs) ∧ W.cell? ⟨g8, j * 5 + 3, none⟩ = some (.string xk) ∧ W.cell? ⟨g8, j * 5 + 4, none⟩ = some (.string xv) ∧ W.cell? ⟨g9, j * 5, none⟩ = some (.int .i64 xo) ∧ W.cell? ⟨g9, j * 5 + 1, none⟩ = some (.int .i64 xc) ∧ W.cell? ⟨g9, j * 5 + 2, none⟩ = some (.int .u32 xs) ∧ W.cell? ⟨g9, j * 5 + 3, none⟩ = some (.string xk) ∧ W.cell? ⟨g9, j * 5 + 4, none⟩ = some (.string xv)) := by
            intro W hW
            obtain ⟨g, e, _, a0, a1, a2, a3, a4⟩ := RW1.out _ hW j _ hget
            obtain ⟨g', e', _, b0, b1, b2, b3, b4⟩ := RW2.out _ hW j _ hget
            injection e with e
            injection e with e _ _
            subst e
            injection e' with e'
            injection e' with e' _ _
            subst e'
            exact ⟨a0, a1, a2, a3, a4, b0, b1, b2, b3, b4⟩
          have D3 := fun (W : World) => xdiff_cmd ⟨xo, xc, xs, xk, xv⟩ W
          simp only at D3
          have RCx := hide (refcmd_any xo xc xs xk xv)
          have j1 : (j : Int) < lm := by omega
          have j0 : (0 : Int) ≤ j := by omega
          have BJ0 := hide (HB.out.trans ((Gr.below ((Gr.refl wr).drew)).mono HB.out.size))
          clear hx hget
          go_wp2_with fail
          go_region_held3 (fun W => W.cell? ⟨g8, j * 5, none⟩ = some (.int .i64 xo) ∧ W.cell? ⟨g8, j * 5 + 1, none⟩ = some (.int .i64 xc) ∧ W.cell? ⟨g8, j * 5 + 2, none⟩ = some (.int .u32 xs) ∧ W.cell? ⟨g8, j * 5 + 3, none⟩ = some (.string xk) ∧ W.cell? ⟨g8, j * 5 + 4, none⟩ = some (.string xv) ∧ W.cell? ⟨g9, j * 5, none⟩ = some (.int .i64 xo) ∧ W.cell? ⟨g9, j * 5 + 1, none⟩ = some (.int .i64 xc) ∧ W.cell? ⟨g9, j * 5 + 2, none⟩ = some (.int .u32 xs) ∧ W.cell? ⟨g9, j * 5 + 3, none⟩ = some (.string xk) ∧ W.cell? ⟨g9, j * 5 + 4, none⟩ = some (.string xv)) (first | exact KJ.out _ BJ1.out | exact KJ.out _ BJ0.out)
            ((go_at_call 14; refine (RCx.out _).mono ?_; rintro e wj ⟨rfl, gj⟩; have BJ1 := hide (BJ0.out.trans (gj.mono BJ0.out.size)); clear gj))
          clear D3
          go_wp2_with fail
          go_roundg (lm + 1 - (j + 1))
          case measure => omega
          case rel => exact ⟨j + 1, by go_num, by omega, rfl, BJ1.out⟩
        · have j1 : ¬ (j : Int) < lm := by omega
          go_wp2_with fail
          go_roundg (61 - (i + 1))
          case measure => omega
          case rel => exact ⟨i + 1, F4, acc', _, _, by go_num, by omega, by omega, rfl, by (show acc'.length ≤ i + 1); rw [← LNH.out]; exact hla, (H11.out.below HB.out).drop (by simp)⟩
    · have hgo2 : ¬ (i : Int) < n ∨ ((i : Int) < n ∧ ¬ (i : Int) < 60) := by omega
      have hl1 : acc.length ≤ 1000000 := by have := LA.out; omega
      have KA := hide (keys_any HP.out.s hl1)
      have KX := hide (fun (W : World) (h : XR W w.heap.size xb VL VR acc) => xkeys_any h HP.out.s.ok hl1)
      obtain ⟨ks, hks⟩ : ∃ ks, ks = keysOf acc := ⟨_, rfl⟩
      obtain ⟨m, hm⟩ : ∃ m, m = ks.length := ⟨_, rfl⟩
      have hm1 : m ≤ 60 := by rw [hm, hks]; exact Nat.le_trans (keys_len acc) (by have := LA.out; omega)
      obtain ⟨⟨kc, kse, kf, kv⟩, hkn⟩ : ∃ kd, (knownOf acc cl sq).getD Rp.zero = kd := ⟨_, rfl⟩
      obtain ⟨er, her⟩ : ∃ er : Int, (if (knownOf acc cl sq).isSome then 0 else 5) = er := ⟨_, rfl⟩
      have C5 := hide (fun (W : World) (h : SS w W F B bv bl bd acc) => known_at h cl sq FCL.out FSQ.out hkn her)
      have C6 := hide (fun (W : World) (h : XR W w.heap.size xb VL VR acc) => xknown_any h cl sq hl1 _ er hkn her)
      have R2 := hide (refrep_any kc kse kf kv)
      have KS := hide hks
      have HM := hide hm
      clear hgo hl1 hks hm hkn her
      rcases hgo2 with i1 | ⟨i1, i2⟩
      all_goals
        go_wp2_with fail
        refine KA.out.mono ?_
        rintro e w3 ⟨v1, rfl, ho, hb⟩
        rw [← KS.out, ← HM.out] at ho
        obtain ⟨A3, c3, rfl, hA3⟩ := own_slice ho
        have O3 := hide ho
        have H3 := hide (HP.out.below hb)
        have HA3 := hide hA3
        clear ho hb hA3
        go_wp2_with fail
        refine (KX.out _ H3.out.x).mono ?_
        rintro e w4 ⟨v2, rfl, ho, hb⟩
        rw [← KS.out, ← HM.out] at ho
        obtain ⟨A4, c4, rfl, hA4⟩ := own_slice ho
        have O4 := hide ho
        have O3b := hide (own_below O3.out hb)
        have H4 := hide (H3.out.below hb)
        have HA4 := hide hA4
        clear ho hb hA4
        go_wp2_with fail
        go_loopg [29] (m + 1) (fun q u wr => ∃ (k : Nat), u = .int .i64 (k : Int) ∧ k ≤ m ∧ q = m + 1 - k ∧ Hid (Gr w4 wr))
        case atStart => exact ⟨0, rfl, Nat.zero_le _, rfl, Gr.refl _⟩
        case round =>
          obtain ⟨k, rfl, hk, rfl, HG⟩ := hrel
          by_cases hlt : k < m
          · have k1 : (k : Int) < m := by omega
            have k0 : (0 : Int) ≤ k := by omega
            obtain ⟨g3, rfl⟩ := HA3.out (by omega)
            obtain ⟨g4, rfl⟩ := HA4.out (by omega)
            have hkl : k < ks.length := by have := HM.out; omega
            have a3 := own_at (own_gr O3b.out HG.out) hkl
            have a4 := own_at (own_gr O4.out HG.out) hkl
            obtain ⟨K, hK⟩ : ∃ K : ByteArray, K = ⟨(ks.getD k []).toArray⟩ := ⟨_, rfl⟩
            rw [← hK] at a3 a4
            have hmix := mixed
            clear hK hkl
            go_wp2_with fail
            go_quiet (fail)
            go_wp2_with fail
            go_roundg (m + 1 - (k + 1))
            case measure => omega
            case rel => exact ⟨k + 1, by go_num, by omega, rfl, HG.out.drewN _⟩
          · have k1 : ¬ (k : Int) < m := by omega
            have H5 := hide (H4.out.gr HG.out)
            go_wp2_with fail
            refine (C5.out _ H5.out.s).mono ?_
            rintro e w5 ⟨rfl, g5⟩
            have H6 := hide ((H5.out.gr g5).box 38 #[.int .i64 kc, .int .u32 kse, .bool kf, .string kv])
            clear g5
            go_wp2_with fail
            refine (C6.out _ H6.out.x).mono ?_
            rintro e w6 ⟨rfl, g6⟩
            have H7 := hide ((H6.out.below g6).box 41 #[.int .i64 kc, .int .u32 kse, .bool kf, .string kv])
            clear g6
            go_upto_region 38 with fail
            have KK : Hid (∀ W : World, Below (w6.alloc (.cells #[.int .i64 kc, .int .u32 kse, .bool kf, .string kv] 41)).heap.size (w6.alloc (.cells #[.int .i64 kc, .int .u32 kse, .bool kf, .string kv] 41)) W → W.cell? ⟨w5.heap.size, 0, none⟩ = some (.int .i64 kc) ∧ W.cell? ⟨w5.heap.size, 1, none⟩ = some (.int .u32 kse) ∧ W.cell? ⟨w5.heap.size, 2, none⟩ = some (.bool kf) ∧ W.cell? ⟨w5.heap.size, 3, none⟩ = some (.string kv) ∧ W.cell? ⟨w6.heap.size, 0, none⟩ = some (.int .i64 kc) ∧ W.cell? ⟨w6.heap.size, 1, none⟩ = some (.int .u32 kse) ∧ W.cell? ⟨w6.heap.size, 2, none⟩ = some (.bool kf) ∧ W.cell? ⟨w6.heap.size, 3, none⟩ = some (.string kv)) := by
              intro W hW
              have h := H7.out.below hW
              have b1 := h.blk (g := w5.heap.size) (t := 38) (cs := #[.int .i64 kc, .int .u32 kse, .bool kf, .string kv]) (by simp)
              have b2 := h.blk (g := w6.heap.size) (t := 41) (cs := #[.int .i64 kc, .int .u32 kse, .bool kf, .string kv]) (by simp)
              exact ⟨(b1.cell 0).trans rfl, (b1.cell 1).trans rfl, (b1.cell 2).trans rfl, (b1.cell 3).trans rfl, (b2.cell 0).trans rfl, (b2.cell 1).trans rfl, (b2.cell 2).trans rfl, (b2.cell 3).trans rfl⟩
            have D2 := fun (W : World) => xsame_rep kc kse kf kv W
            have BZ := hide (Gr.below ((Gr.refl (w6.alloc (.cells #[.int .i64 kc, .int .u32 kse, .bool kf, .string kv] 41))).drew))
            go_region_held3 (fun W => W.cell? ⟨w5.heap.size, 0, none⟩ = some (.int .i64 kc) ∧ W.cell? ⟨w5.heap.size, 1, none⟩ = some (.int .u32 kse) ∧ W.cell? ⟨w5.heap.size, 2, none⟩ = some (.bool kf) ∧ W.cell? ⟨w5.heap.size, 3, none⟩ = some (.string kv) ∧ W.cell? ⟨w6.heap.size, 0, none⟩ = some (.int .i64 kc) ∧ W.cell? ⟨w6.heap.size, 1, none⟩ = some (.int .u32 kse) ∧ W.cell? ⟨w6.heap.size, 2, none⟩ = some (.bool kf) ∧ W.cell? ⟨w6.heap.size, 3, none⟩ = some (.string kv)) (first | exact KK.out _ BA.out | exact KK.out _ BZ.out)
              ((go_at_call 21; refine (R2.out _).mono ?_; rintro e wa ⟨rfl, ga⟩; have BA := hide (BZ.out.trans (ga.mono BZ.out.size)); clear ga))
            clear D2
            go_wp2_with fail
            go_ret
            exact ⟨rfl, (H7.out.below BA.out).s.bel⟩

end Go.Proofs.Ytfcaneofkdaicaa
