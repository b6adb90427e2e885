/-
  Chapter 16: Apply, when the command is done: walked.
-/
import Derived.Test.YtfcaneofkdaicaaW7
import Derived.Deep.DeepCutAuto
namespace Go.Proofs.Ytfcaneofkdaicaa
open Go.RowKit Go.Sort Go.Maps

set_option maxRecDepth 100000 in
set_option maxHeartbeats 4000000 in
theorem apply_put {w0 w : World} {F : List Nat} {B bv bl bd : Nat} {acc : List Cm} (h : SS w0 w F B bv bl bd acc) (c s : Int) (k v : ByteArray) (hf : Cm.Fit ⟨1, c, s, k, v⟩) (hx : newC acc ⟨1, c, s, k, v⟩ = true) (hlen : (logOf acc k).length ≤ 1000000) :
    Calls Try.prog 12 #[.pointer (some ⟨B, 0, none⟩), .agg #[.int .i64 1, .int .i64 c, .int .u32 s, .string k, .string v]] w fun e w' => e = .returned (.tuple #[(rep acc ⟨1, c, s, k, v⟩).val, .bool true]) ∧
      ∃ F', SS w0 w' F' B bv bl bd (acc ++ [⟨1, c, s, k, v⟩]) ∧ Only (· ∈ F) w w' ∧ ∀ b ∈ F', b ∈ F ∨ w.heap.size ≤ b := by
  have hx' := hx
  unfold newC at hx'
  rw [Bool.and_eq_true, Bool.not_eq_true'] at hx'
  have hright : rightC ⟨1, c, s, k, v⟩ = true := by unfold rightC; rw [hx'.1, Bool.or_true]
  have hkn : knownOf acc c s = none := by
    have h1 := known_some acc c s
    rw [show (acc.any fun z => z.asks c s) = false from hx'.2] at h1
    cases hk : knownOf acc c s with
    | none => rfl
    | some z => rw [hk] at h1; cases h1
  obtain ⟨k0, k1, hg, hs⟩ := begun ⟨1, c, s, k, v⟩ w
  have R := hide (fun W => right_any ⟨1, c, s, k, v⟩ W true hright)
  have HNC := hide hx
  have HF := hide hf
  have H := hide h
  have hks : k.size ≤ 9223372036854775807 := hf.k
  have M0 := hide (h.mid (x := ⟨1, c, s, k, v⟩) (y := Rp.zero) (Only.of_gr _ hg) k0 k1)
  have KN := hide (fun W (h : SS w0 W F B bv bl bd acc) => known_no h c s hf.c hf.s hkn)
  have PR := hide (fun y (h1 : y.c = c) (h2 : y.s = s) => putP_reps hkn y h1 h2)
  have KS := hide hks
  have G := hide hg
  obtain ⟨v0, hv0⟩ : ∃ v0, v0 = (valOf acc k).getD ⟨#[]⟩ := ⟨_, rfl⟩
  obtain ⟨r0, hr0⟩ : ∃ r0, r0 = (valOf acc k).isSome := ⟨_, rfl⟩
  have VA := hide (fun W F (h : SS w0 W F B bv bl bd acc) => value_any h k hks v0 r0 hv0.symm hr0.symm)
  have hrep : rep acc ⟨1, c, s, k, v⟩ = ⟨c, s, r0, v0⟩ := by unfold rep; rw [hv0, hr0]
  have REP := hide hrep
  obtain ⟨kl, hkl⟩ := str_key k hks
  have KL := hide hkl
  obtain ⟨al, hal⟩ := ask_key c s hf.c hf.s
  have AL := hide hal
  have HL := hide hlen
  have HSZ := hide hs
  rw [hrep]
  have hB : B ≠ w.heap.size + 1 := fun e => by have := h.lt; omega
  have HB := hide hB
  clear k0 k1 hg hs h hx hx' hright hkn hf hv0 hr0 hrep hkl hal hlen hB hks
  unfold Cm.val at R
  unfold Rp.val Rp.zero at KN
  unfold Rp.val
  unfold Rp.zero at M0
  go_enter Try.func12, Try.ntmps12
  go_wp2_with fail
  refine wp_scope_once 0 rfl ?_
  go_wp2_with fail
  refine (R.out _).mono ?_
  rintro e w1 ⟨rfl, g1⟩
  have M1 := hide (M0.out.gr H.out g1)
  have G1 := hide (G.out.trans g1)
  clear g1
  have bb1 := M1.out.box
  have br1 := M1.out.rep
  have x0 : w1.cell? ⟨w.heap.size, 0, none⟩ = some (.int .i64 1) := (bb1.cell 0).trans rfl
  have x1 : w1.cell? ⟨w.heap.size, 1, none⟩ = some (.int .i64 c) := (bb1.cell 1).trans rfl
  have x2 : w1.cell? ⟨w.heap.size, 2, none⟩ = some (.int .u32 s) := (bb1.cell 2).trans rfl
  have x3 : w1.cell? ⟨w.heap.size, 3, none⟩ = some (.string k) := (bb1.cell 3).trans rfl
  have x4 : w1.cell? ⟨w.heap.size, 4, none⟩ = some (.string v) := (bb1.cell 4).trans rfl
  have f0 := br1.frozen 0
  have f1 := br1.frozen 1
  have f2 := br1.frozen 2
  have f3 := br1.frozen 3
  have z0 : w1.cell? ⟨w.heap.size + 1, 0, none⟩ = some (.int .i64 0) := (br1.cell 0).trans rfl
  have z1 : w1.cell? ⟨w.heap.size + 1, 1, none⟩ = some (.int .u32 0) := (br1.cell 1).trans rfl
  have z2 : w1.cell? ⟨w.heap.size + 1, 2, none⟩ = some (.bool false) := (br1.cell 2).trans rfl
  have z3 : w1.cell? ⟨w.heap.size + 1, 3, none⟩ = some (.string ⟨#[]⟩) := (br1.cell 3).trans rfl
  have c0 : w1.cell? ⟨B, 0, none⟩ = some (.map (some bv)) := (M1.out.blk.cell 0).trans rfl
  have c1 : w1.cell? ⟨B, 1, none⟩ = some (.map (some bl)) := (M1.out.blk.cell 1).trans rfl
  have c2 : w1.cell? ⟨B, 2, none⟩ = some (.map (some bd)) := (M1.out.blk.cell 2).trans rfl
  clear bb1 br1
  go_wp2_with fail
  clear x0 x1 x2 x3 x4 f0 f1 f2 f3 z0 z1 z2 z3 c0 c1 c2
  refine (KN.out _ (H.out.gr G1.out)).mono ?_
  rintro e w2 ⟨rfl, g2⟩
  obtain ⟨W2, hW2⟩ : ∃ W2, W2 = w2.alloc (.cells #[.int .i64 0, .int .u32 0, .bool false, .string ⟨#[]⟩] 38) := ⟨_, rfl⟩
  have M2' := M1.out.gr H.out g2
  have M2 := hide (hW2 ▸ M2'.gr H.out ((Gr.refl w2).alloc (.cells #[.int .i64 0, .int .u32 0, .bool false, .string ⟨#[]⟩] 38)))
  have GM2 := hide M2'
  clear g2 M2'
  have bb2 := GM2.out.box
  have br2 := GM2.out.rep
  have x0 : w2.cell? ⟨w.heap.size, 0, none⟩ = some (.int .i64 1) := (bb2.cell 0).trans rfl
  have x1 : w2.cell? ⟨w.heap.size, 1, none⟩ = some (.int .i64 c) := (bb2.cell 1).trans rfl
  have x2 : w2.cell? ⟨w.heap.size, 2, none⟩ = some (.int .u32 s) := (bb2.cell 2).trans rfl
  have x3 : w2.cell? ⟨w.heap.size, 3, none⟩ = some (.string k) := (bb2.cell 3).trans rfl
  have x4 : w2.cell? ⟨w.heap.size, 4, none⟩ = some (.string v) := (bb2.cell 4).trans rfl
  have f0 := br2.frozen 0
  have f1 := br2.frozen 1
  have f2 := br2.frozen 2
  have f3 := br2.frozen 3
  have z0 : w2.cell? ⟨w.heap.size + 1, 0, none⟩ = some (.int .i64 0) := (br2.cell 0).trans rfl
  have z1 : w2.cell? ⟨w.heap.size + 1, 1, none⟩ = some (.int .u32 0) := (br2.cell 1).trans rfl
  have z2 : w2.cell? ⟨w.heap.size + 1, 2, none⟩ = some (.bool false) := (br2.cell 2).trans rfl
  have z3 : w2.cell? ⟨w.heap.size + 1, 3, none⟩ = some (.string ⟨#[]⟩) := (br2.cell 3).trans rfl
  have c0 : w2.cell? ⟨B, 0, none⟩ = some (.map (some bv)) := (GM2.out.blk.cell 0).trans rfl
  have c1 : w2.cell? ⟨B, 1, none⟩ = some (.map (some bl)) := (GM2.out.blk.cell 1).trans rfl
  have c2 : w2.cell? ⟨B, 2, none⟩ = some (.map (some bd)) := (GM2.out.blk.cell 2).trans rfl
  clear bb2 br2
  have bg := GM2.out.big
  go_upto_region 4 with fail
  rw [← hW2]
  clear x0 x1 x2 x3 x4 f0 f1 f2 f3 z0 z1 z2 z3 c0 c1 c2
  have HW2 := hide hW2
  clear hW2 bg
  have bb3 := M2.out.box
  have br3 := M2.out.rep
  have x0 : W2.cell? ⟨w.heap.size, 0, none⟩ = some (.int .i64 1) := (bb3.cell 0).trans rfl
  have x1 : W2.cell? ⟨w.heap.size, 1, none⟩ = some (.int .i64 c) := (bb3.cell 1).trans rfl
  have x2 : W2.cell? ⟨w.heap.size, 2, none⟩ = some (.int .u32 s) := (bb3.cell 2).trans rfl
  have x3 : W2.cell? ⟨w.heap.size, 3, none⟩ = some (.string k) := (bb3.cell 3).trans rfl
  have x4 : W2.cell? ⟨w.heap.size, 4, none⟩ = some (.string v) := (bb3.cell 4).trans rfl
  have f0 := br3.frozen 0
  have f1 := br3.frozen 1
  have f2 := br3.frozen 2
  have f3 := br3.frozen 3
  have z0 : W2.cell? ⟨w.heap.size + 1, 0, none⟩ = some (.int .i64 0) := (br3.cell 0).trans rfl
  have z1 : W2.cell? ⟨w.heap.size + 1, 1, none⟩ = some (.int .u32 0) := (br3.cell 1).trans rfl
  have z2 : W2.cell? ⟨w.heap.size + 1, 2, none⟩ = some (.bool false) := (br3.cell 2).trans rfl
  have z3 : W2.cell? ⟨w.heap.size + 1, 3, none⟩ = some (.string ⟨#[]⟩) := (br3.cell 3).trans rfl
  have c0 : W2.cell? ⟨B, 0, none⟩ = some (.map (some bv)) := (M2.out.blk.cell 0).trans rfl
  have c1 : W2.cell? ⟨B, 1, none⟩ = some (.map (some bl)) := (M2.out.blk.cell 1).trans rfl
  have c2 : W2.cell? ⟨B, 2, none⟩ = some (.map (some bd)) := (M2.out.blk.cell 2).trans rfl
  clear bb3 br3
  go_wp2_with fail
  clear x0 x1 x2 x3 x4 f0 f1 f2 f3 z0 z1 z2 z3 c0 c1 c2
  obtain ⟨WC, hWC⟩ : ∃ WC, WC = (((W2.setCell ⟨w.heap.size + 1, 0, none⟩ (.int .i64 c)).setCell ⟨w.heap.size + 1, 1, none⟩ (.int .u32 s)).setCell ⟨w.heap.size + 1, 2, none⟩ (.bool false)).setCell ⟨w.heap.size + 1, 3, none⟩ (.string ⟨#[]⟩) := ⟨_, rfl⟩
  rw [← hWC]
  obtain ⟨hb, ho⟩ := put_rep M2.out.rep rfl _ _ _ _ hWC
  have M3 := hide (M2.out.put_rep (y' := ⟨c, s, false, ⟨#[]⟩⟩) H.out ho hb)
  clear hb ho
  have HWC := hide hWC
  clear hWC
  obtain ⟨F3, s3⟩ := M3.out.ss H.out
  refine (VA.out _ _ s3).mono ?_
  rintro e w3 ⟨rfl, rfl⟩
  clear s3
  have bb4 := M3.out.box
  have br4 := M3.out.rep
  have x0 : WC.cell? ⟨w.heap.size, 0, none⟩ = some (.int .i64 1) := (bb4.cell 0).trans rfl
  have x1 : WC.cell? ⟨w.heap.size, 1, none⟩ = some (.int .i64 c) := (bb4.cell 1).trans rfl
  have x2 : WC.cell? ⟨w.heap.size, 2, none⟩ = some (.int .u32 s) := (bb4.cell 2).trans rfl
  have x3 : WC.cell? ⟨w.heap.size, 3, none⟩ = some (.string k) := (bb4.cell 3).trans rfl
  have x4 : WC.cell? ⟨w.heap.size, 4, none⟩ = some (.string v) := (bb4.cell 4).trans rfl
  have f0 := br4.frozen 0
  have f1 := br4.frozen 1
  have f2 := br4.frozen 2
  have f3 := br4.frozen 3
  have z0 : WC.cell? ⟨w.heap.size + 1, 0, none⟩ = some (.int .i64 c) := (br4.cell 0).trans rfl
  have z1 : WC.cell? ⟨w.heap.size + 1, 1, none⟩ = some (.int .u32 s) := (br4.cell 1).trans rfl
  have z2 : WC.cell? ⟨w.heap.size + 1, 2, none⟩ = some (.bool false) := (br4.cell 2).trans rfl
  have z3 : WC.cell? ⟨w.heap.size + 1, 3, none⟩ = some (.string ⟨#[]⟩) := (br4.cell 3).trans rfl
  have c0 : WC.cell? ⟨B, 0, none⟩ = some (.map (some bv)) := (M3.out.blk.cell 0).trans rfl
  have c1 : WC.cell? ⟨B, 1, none⟩ = some (.map (some bl)) := (M3.out.blk.cell 1).trans rfl
  have c2 : WC.cell? ⟨B, 2, none⟩ = some (.map (some bd)) := (M3.out.blk.cell 2).trans rfl
  clear bb4 br4
  go_wp2_with fail
  clear x0 x1 x2 x3 x4 f0 f1 f2 f3 z0 z1 z2 z3 c0 c1 c2
  obtain ⟨WD, hWD⟩ : ∃ WD, WD = (WC.setCell ⟨w.heap.size + 1, 3, none⟩ (.string v0)).setCell ⟨w.heap.size + 1, 2, none⟩ (.bool r0) := ⟨_, rfl⟩
  rw [← hWD]
  obtain ⟨hb, ho⟩ := put_two M3.out.rep _ _ hWD
  have M4 := hide (M3.out.put_rep (y' := ⟨c, s, r0, v0⟩) H.out ho hb)
  clear hb ho
  have HWD := hide hWD
  clear hWD
  have M4d := hide (M4.out.gr H.out ((Gr.refl WD).drewN 1))
  have bb5 := (show Mid w0 w WD.drew F B bv bl bd _ _ _ _ _ from M4d.out).box
  have br5 := (show Mid w0 w WD.drew F B bv bl bd _ _ _ _ _ from M4d.out).rep
  have x0 : WD.drew.cell? ⟨w.heap.size, 0, none⟩ = some (.int .i64 1) := (bb5.cell 0).trans rfl
  have x1 : WD.drew.cell? ⟨w.heap.size, 1, none⟩ = some (.int .i64 c) := (bb5.cell 1).trans rfl
  have x2 : WD.drew.cell? ⟨w.heap.size, 2, none⟩ = some (.int .u32 s) := (bb5.cell 2).trans rfl
  have x3 : WD.drew.cell? ⟨w.heap.size, 3, none⟩ = some (.string k) := (bb5.cell 3).trans rfl
  have x4 : WD.drew.cell? ⟨w.heap.size, 4, none⟩ = some (.string v) := (bb5.cell 4).trans rfl
  have f0 := br5.frozen 0
  have f1 := br5.frozen 1
  have f2 := br5.frozen 2
  have f3 := br5.frozen 3
  have z0 : WD.drew.cell? ⟨w.heap.size + 1, 0, none⟩ = some (.int .i64 c) := (br5.cell 0).trans rfl
  have z1 : WD.drew.cell? ⟨w.heap.size + 1, 1, none⟩ = some (.int .u32 s) := (br5.cell 1).trans rfl
  have z2 : WD.drew.cell? ⟨w.heap.size + 1, 2, none⟩ = some (.bool r0) := (br5.cell 2).trans rfl
  have z3 : WD.drew.cell? ⟨w.heap.size + 1, 3, none⟩ = some (.string v0) := (br5.cell 3).trans rfl
  have c0 : WD.drew.cell? ⟨B, 0, none⟩ = some (.map (some bv)) := ((show Mid w0 w WD.drew F B bv bl bd _ _ _ _ _ from M4d.out).blk.cell 0).trans rfl
  have c1 : WD.drew.cell? ⟨B, 1, none⟩ = some (.map (some bl)) := ((show Mid w0 w WD.drew F B bv bl bd _ _ _ _ _ from M4d.out).blk.cell 1).trans rfl
  have c2 : WD.drew.cell? ⟨B, 2, none⟩ = some (.map (some bd)) := ((show Mid w0 w WD.drew F B bv bl bd _ _ _ _ _ from M4d.out).blk.cell 2).trans rfl
  clear bb5 br5
  refine wp_region_tail 8 mixed (by kernel_rfl) ?_
  simp only [List.take_succ_cons, List.take_zero, List.drop_succ_cons, List.drop_zero]
  repeat still_step
  refine wpStill_nil ?_
  go_wp2_with (at_mapUpdate; go_must (refine wpList_put_map _ rfl _ _ _ 67 rfl str_law Try.underlying67 rfl M4d.out.mv (.string k) (.string v) _ rfl rfl KL.out ?_); intro WE hm5 hg5 hz5; clear hz5; have HM5 := hide hm5; have HG5 := hide hg5; clear hm5 hg5)
  have M5 : Hid (Mid w0 w WE F B bv bl bd (valsOf (acc ++ [⟨1, c, s, k, v⟩])) (logsOf acc) (reps acc) ⟨1, c, s, k, v⟩ ⟨c, s, r0, v0⟩) := by
    refine M4d.out.put_v H.out HG5.out ?_
    have hm := HM5.out
    rw [putP_vals] at hm
    rw [valsOf_snoc]
    exact hm
  clear x0 x1 x2 x3 x4 f0 f1 f2 f3 z0 z1 z2 z3 c0 c1 c2
  obtain ⟨gs, hg1, hg2⟩ := M5.out.lg
  have G2 := hide hg2
  have M5a := hide (M5.out.gr H.out (((Gr.refl WE).alloc (.cells #[.int .i64 1, .int .i64 c, .int .u32 s, .string k, .string v] 33)).drew))
  have gd : WE.grownBy WE.drew none := below_grown_none ((Gr.refl WE).drew).below
  have ga : WE.grownBy (WE.alloc (.cells #[.int .i64 1, .int .i64 c, .int .u32 s, .string k, .string v] 33)).drew none := below_grown_none (((Gr.refl WE).alloc (.cells #[.int .i64 1, .int .i64 c, .int .u32 s, .string k, .string v] 33)).drew).below
  have GA := hide (hg1.grown ga (by simp) (by simp))
  have lk := (hg1.grown gd (by simp) (by simp)).look k KS.out
  have lka := GA.out.look k KS.out
  have OW := hide (GA.out.own_of k)
  have RN := hide (Reads.drew (reads_new WE ⟨1, c, s, k, v⟩))
  have LL : Hid ((logL gs k).length ≤ 1000000) := by
    have h1 := HL.out
    rw [← logsOf_get, ← hg1.eq, logL_get] at h1
    exact h1
  have ll := LL.out
  have ND := hide (logsOf_nodup acc)
  clear hg1 hg2 ga gd
  obtain ⟨V, hV⟩ : ∃ V, V = logV gs k := ⟨_, rfl⟩
  rw [← hV] at lk lka OW
  have HV := hide hV
  obtain ⟨nl, hnl⟩ : ∃ nl, nl = (logL gs k).length := ⟨_, rfl⟩
  rw [← hnl] at OW ll
  have HNL := hide hnl
  clear hV hnl
  obtain ⟨i0, hi0, hz0, hz1, hz2⟩ := info_parts cmd_info
  have KK : Hid (∀ W' : World, W'.heap[B]? = WE.heap[B]? → W'.heap[w.heap.size]? = WE.heap[w.heap.size]? → (fun W' => W'.cell? ⟨B, 1, none⟩ = some (.map (some bl)) ∧ W'.cell? ⟨w.heap.size, 0, none⟩ = some (.int .i64 1) ∧ W'.cell? ⟨w.heap.size, 1, none⟩ = some (.int .i64 c) ∧ W'.cell? ⟨w.heap.size, 2, none⟩ = some (.int .u32 s) ∧ W'.cell? ⟨w.heap.size, 3, none⟩ = some (.string k) ∧ W'.cell? ⟨w.heap.size, 4, none⟩ = some (.string v)) W') := by
    intro W' hB hb
    have b1 : Blk W' B 71 #[.map (some bv), .map (some bl), .map (some bd)] := hB.trans M5.out.blk
    have b2 : Blk W' w.heap.size 33 #[.int .i64 1, .int .i64 c, .int .u32 s, .string k, .string v] := hb.trans M5.out.box
    exact ⟨(b1.cell 1).trans rfl, (b2.cell 0).trans rfl, (b2.cell 1).trans rfl, (b2.cell 2).trans rfl, (b2.cell 3).trans rfl, (b2.cell 4).trans rfl⟩
  have hBE := M5.out.blk.lt
  have hbE := M5.out.box.lt
  have hBa := Below.heap_alloc WE (.cells #[.int .i64 1, .int .i64 c, .int .u32 s, .string k, .string v] 33) B hBE
  have hba := Below.heap_alloc WE (.cells #[.int .i64 1, .int .i64 c, .int .u32 s, .string k, .string v] 33) w.heap.size hbE
  have HBA := hide (And.intro hBa hba)
  have PSI := hide (by have := H.out.bel.size; have := M5a.out.only.size; show w0.heap.size ≤ (WE.alloc (.cells #[.int .i64 1, .int .i64 c, .int .u32 s, .string k, .string v] 33)).drew.heap.size; omega)
  clear hBa hba hBE hbE
  have hs64 : (nl + 1) * 56 ≤ 140737488355328 := by omega
  have hmx : nl + 1 ≤ maxLen := by simp only [maxLen]; omega
  go_region_held3 (fun W' => W'.cell? ⟨B, 1, none⟩ = some (.map (some bl)) ∧ W'.cell? ⟨w.heap.size, 0, none⟩ = some (.int .i64 1) ∧ W'.cell? ⟨w.heap.size, 1, none⟩ = some (.int .i64 c) ∧ W'.cell? ⟨w.heap.size, 2, none⟩ = some (.int .u32 s) ∧ W'.cell? ⟨w.heap.size, 3, none⟩ = some (.string k) ∧ W'.cell? ⟨w.heap.size, 4, none⟩ = some (.string v))
    (first
      | exact KK.out _ rfl rfl
      | exact KK.out _ HBA.out.1 HBA.out.2
      | exact KK.out _ HWA.out.1 HWA.out.2
      | exact KK.out _ HWB.out.1 HWB.out.2)
    ((refine step_append_any _ rfl (.tmp 73) (.tmp 75) 53 rfl w0.heap.size 33 i0 Cm.zero.val 5 56 Try.underlying53 hi0 hz0 hz1 hz2 rfl (by omega) V nl _ rfl OW.out (WE.heap.size + 1) (some ⟨WE.heap.size, 0, none⟩) 1 1 (Cm.cells ⟨1, c, s, k, v⟩) rfl RN.out (cmd_one _) hmx hs64 PSI.out ?_; intro v' wa hown hgr hat; obtain ⟨g', cap', hv', _, _⟩ := hown.form (by omega); subst hv'; have OA := hide hown; have GR := hide hgr; have AT := hide hat; have MA := hide (GA.out.map.grown hgr (by rw [HV.out]; exact own_map_ne (GA.out.own_of k) GA.out.map)); have HV2 := (show (WE.alloc (.cells #[.int .i64 1, .int .i64 c, .int .u32 s, .string k, .string v] 33)).drew.grownBy wa (logV gs k).ownBlock from by rw [← HV.out]; exact hgr); have fa := M5a.out.far H.out GA.out G2.out k HV2; have HWA := hide (show wa.heap[B]? = WE.heap[B]? ∧ wa.heap[w.heap.size]? = WE.heap[w.heap.size]? from ⟨fa.1.trans HBA.out.1, fa.2.trans HBA.out.2⟩); obtain ⟨wb, hrun, hm6, hg6, hz6⟩ := MA.out.put (val := .slice (some ⟨g', 0, none⟩) (nl + 1) cap') str_law Try.underlying68 KL.out; have HM6 := hide hm6; have HG6 := hide hg6; have fb := M5a.out.far2 H.out GA.out G2.out k HV2 hg6; have HWB := hide (show wb.heap[B]? = WE.heap[B]? ∧ wb.heap[w.heap.size]? = WE.heap[w.heap.size]? from ⟨fb.1.trans HBA.out.1, fb.2.trans HBA.out.2⟩); clear hown hgr hat hm6 hg6 hz6 HV2 fa fb))
  all_goals
    clear lk lka
    go_wp2_with fail
    have M6 : Hid (Mid w0 w wb F B bv bl bd (valsOf (acc ++ [⟨1, c, s, k, v⟩])) (logsOf (acc ++ [⟨1, c, s, k, v⟩])) (reps acc) ⟨1, c, s, k, v⟩ ⟨c, s, r0, v0⟩) := by
      rw [logsOf_snoc]
      refine M5a.out.put_l H.out GA.out G2.out ND.out ?_ ?_ ?_ HM6.out HG6.out
      · have h1 := OA.out
        have e := HNL.out
        rw [cellsL_snoc]
        show wa.ownsRow _ _ _ _ ((logL gs k).length + 1) _
        rw [← e]
        exact h1
      · have h1 := GR.out
        rw [HV.out] at h1
        exact h1
      · have h1 := AT.out
        rw [HV.out] at h1
        exact h1
    clear ll hi0 hz0 hz1 hz2
    have M6d := hide (M6.out.gr H.out ((Gr.refl wb).drewN 1))
    have bb7 := (show Mid w0 w wb.drew F B bv bl bd _ _ _ _ _ from M6d.out).box
    have br7 := (show Mid w0 w wb.drew F B bv bl bd _ _ _ _ _ from M6d.out).rep
    have x0 : wb.drew.cell? ⟨w.heap.size, 0, none⟩ = some (.int .i64 1) := (bb7.cell 0).trans rfl
    have x1 : wb.drew.cell? ⟨w.heap.size, 1, none⟩ = some (.int .i64 c) := (bb7.cell 1).trans rfl
    have x2 : wb.drew.cell? ⟨w.heap.size, 2, none⟩ = some (.int .u32 s) := (bb7.cell 2).trans rfl
    have x3 : wb.drew.cell? ⟨w.heap.size, 3, none⟩ = some (.string k) := (bb7.cell 3).trans rfl
    have x4 : wb.drew.cell? ⟨w.heap.size, 4, none⟩ = some (.string v) := (bb7.cell 4).trans rfl
    have f0 := br7.frozen 0
    have f1 := br7.frozen 1
    have f2 := br7.frozen 2
    have f3 := br7.frozen 3
    have z0 : wb.drew.cell? ⟨w.heap.size + 1, 0, none⟩ = some (.int .i64 c) := (br7.cell 0).trans rfl
    have z1 : wb.drew.cell? ⟨w.heap.size + 1, 1, none⟩ = some (.int .u32 s) := (br7.cell 1).trans rfl
    have z2 : wb.drew.cell? ⟨w.heap.size + 1, 2, none⟩ = some (.bool r0) := (br7.cell 2).trans rfl
    have z3 : wb.drew.cell? ⟨w.heap.size + 1, 3, none⟩ = some (.string v0) := (br7.cell 3).trans rfl
    have c0 : wb.drew.cell? ⟨B, 0, none⟩ = some (.map (some bv)) := ((show Mid w0 w wb.drew F B bv bl bd _ _ _ _ _ from M6d.out).blk.cell 0).trans rfl
    have c1 : wb.drew.cell? ⟨B, 1, none⟩ = some (.map (some bl)) := ((show Mid w0 w wb.drew F B bv bl bd _ _ _ _ _ from M6d.out).blk.cell 1).trans rfl
    have c2 : wb.drew.cell? ⟨B, 2, none⟩ = some (.map (some bd)) := ((show Mid w0 w wb.drew F B bv bl bd _ _ _ _ _ from M6d.out).blk.cell 2).trans rfl
    clear bb7 br7
    have AL' := AL.out
    refine wp_region_tail 10 mixed (by kernel_rfl) ?_
    simp only [List.take_succ_cons, List.take_zero, List.drop_succ_cons, List.drop_zero]
    repeat still_step
    refine wpStill_nil ?_
    clear AL'
    go_upto_region 13 with (at_mapUpdate; go_must (refine wpList_put_map _ rfl _ _ _ 69 rfl ask_law Try.underlying69 rfl M6d.out.md (askV c s) (Rp.val ⟨c, s, r0, v0⟩) _ rfl rfl AL.out ?_); intro wc hm7 hg7 hz7; clear hz7; have HM7 := hide hm7; have HG7 := hide hg7; clear hm7 hg7)
    clear x0 x1 x2 x3 x4 f0 f1 f2 f3 z0 z1 z2 z3 c0 c1 c2
    have M8 : Hid (Mid w0 w wc F B bv bl bd (valsOf (acc ++ [⟨1, c, s, k, v⟩])) (logsOf (acc ++ [⟨1, c, s, k, v⟩])) (reps (acc ++ [⟨1, c, s, k, v⟩])) ⟨1, c, s, k, v⟩ ⟨c, s, r0, v0⟩) := by
      refine M6d.out.put_d H.out HG7.out ?_
      have hm := HM7.out
      rw [PR.out ⟨c, s, r0, v0⟩ rfl rfl] at hm
      rw [reps_snoc, REP.out]
      exact hm
    have bb8 := M8.out.box
    have br8 := M8.out.rep
    have x0 : wc.cell? ⟨w.heap.size, 0, none⟩ = some (.int .i64 1) := (bb8.cell 0).trans rfl
    have x1 : wc.cell? ⟨w.heap.size, 1, none⟩ = some (.int .i64 c) := (bb8.cell 1).trans rfl
    have x2 : wc.cell? ⟨w.heap.size, 2, none⟩ = some (.int .u32 s) := (bb8.cell 2).trans rfl
    have x3 : wc.cell? ⟨w.heap.size, 3, none⟩ = some (.string k) := (bb8.cell 3).trans rfl
    have x4 : wc.cell? ⟨w.heap.size, 4, none⟩ = some (.string v) := (bb8.cell 4).trans rfl
    have f0 := br8.frozen 0
    have f1 := br8.frozen 1
    have f2 := br8.frozen 2
    have f3 := br8.frozen 3
    have z0 : wc.cell? ⟨w.heap.size + 1, 0, none⟩ = some (.int .i64 c) := (br8.cell 0).trans rfl
    have z1 : wc.cell? ⟨w.heap.size + 1, 1, none⟩ = some (.int .u32 s) := (br8.cell 1).trans rfl
    have z2 : wc.cell? ⟨w.heap.size + 1, 2, none⟩ = some (.bool r0) := (br8.cell 2).trans rfl
    have z3 : wc.cell? ⟨w.heap.size + 1, 3, none⟩ = some (.string v0) := (br8.cell 3).trans rfl
    have c0 : wc.cell? ⟨B, 0, none⟩ = some (.map (some bv)) := (M8.out.blk.cell 0).trans rfl
    have c1 : wc.cell? ⟨B, 1, none⟩ = some (.map (some bl)) := (M8.out.blk.cell 1).trans rfl
    have c2 : wc.cell? ⟨B, 2, none⟩ = some (.map (some bd)) := (M8.out.blk.cell 2).trans rfl
    clear bb8 br8
    go_wp2_with fail
    clear x0 x1 x2 x3 x4 f0 f1 f2 f3 z0 z1 z2 z3 c0 c1 c2
    refine once_ret ?_
    obtain ⟨WZ, hWZ⟩ : ∃ WZ, WZ = (((wc.setCell ⟨w.heap.size + 1, 0, none⟩ (.int .i64 c)).setCell ⟨w.heap.size + 1, 1, none⟩ (.int .u32 s)).setCell ⟨w.heap.size + 1, 2, none⟩ (.bool r0)).setCell ⟨w.heap.size + 1, 3, none⟩ (.string v0) := ⟨_, rfl⟩
    rw [← hWZ]
    obtain ⟨hb, ho⟩ := put_rep M8.out.rep rfl _ _ _ _ hWZ
    have M9 := M8.out.put_rep (y' := ⟨c, s, r0, v0⟩) H.out ho hb
    exact ret_end _ _ (w.heap.size + 1) c s r0 true v0 rfl rfl rfl hb ⟨rfl, M9.finish H.out HNC.out HF.out⟩

end Go.Proofs.Ytfcaneofkdaicaa
