/-
  Chapter 16: StoreReplays: walked.
-/
import Derived.Test.YtfcaneofkdaicaaW17
import Derived.Shelf.SlSortCmp.QuietGrown
namespace Go.Proofs.Ytfcaneofkdaicaa
open Go.RowKit Go.Sort Go.Maps Go.Shelf

def Grew2 (w0 : World) (B bv bl bd : Nat) (F2 : List Nat) (B2 v2 l2 d2 : Nat) (i : Nat) (e : Ending) (w' : World) : Prop :=
  (∃ y r, e = .returned (.tuple #[y, r])) ∧ ∃ F acc, acc.length ≤ i + 1 ∧ (∀ x ∈ acc, few x) ∧ TW w0 w' F B bv bl bd acc F2 B2 v2 l2 d2 [] []
theorem first_wish {w0 w : World} {F F2 : List Nat} {B bv bl bd B2 v2 l2 d2 : Nat} {acc : List Cm} (h : TW w0 w F B bv bl bd acc F2 B2 v2 l2 d2 [] []) (i : Nat) (hi : i ≤ 100) (hl : acc.length ≤ i ∧ ∀ x ∈ acc, few x) (y : Cm)
    (hy : y = Cm.zero ∨ (okC y = true ∧ ¬ y.o = 0 ∧ few y ∧ y.Fit)) :
    Calls Try.prog 12 #[.pointer (some ⟨B, 0, none⟩), .agg #[.int .i64 y.o, .int .i64 y.c, .int .u32 y.s, .string y.k, .string y.v]] w (Grew2 w0 B bv bl bd F2 B2 v2 l2 d2 i) := by
  have hf : y.Fit := by
    rcases hy with rfl | hy
    · refine ⟨?_, ?_, ?_, ?_, ?_⟩ <;> simp [Cm.zero, Fits, FitsU, ByteArray.size]
    · exact hy.2.2.2
  refine (apply_any h.s y hf (by omega)).mono fun e w' ⟨he, F', hs, hk, hF⟩ => ⟨⟨_, _, he⟩, F', applyC acc y, ?_, ?_, h.first hs hk hF⟩
  · have := applyC_len acc y; omega
  · intro x hx
    unfold applyC at hx
    split at hx
    · rename_i hn
      rcases List.mem_append.1 hx with hx | hx
      · exact hl.2 x hx
      · rw [List.mem_singleton.1 hx]
        rcases hy with rfl | hy
        · have : newC acc Cm.zero = false := rfl
          rw [this] at hn; cases hn
        · exact hy.2.2.1
    · exact hl.2 x hx
theorem new_two (w0 w : World) {F : List Nat} {B bv bl bd : Nat} (h : SS w0 w F B bv bl bd []) : Calls Try.prog 10 #[] w fun e w' =>
    ∃ F2 B2 v2 l2 d2, e = .returned (.pointer (some ⟨B2, 0, none⟩)) ∧ TW w0 w' F B bv bl bd [] F2 B2 v2 l2 d2 [] [] :=
  (new_any w0 w h.bel).mono fun e w' ⟨F2, B2, v2, l2, d2, he, hs, hg, hF, hB⟩ => ⟨F2, B2, v2, l2, d2, he, h.gr hg, ⟨hs, by simp⟩,
    fun b hb hb2 => by have := h.flt b hb; have := hF b hb2; omega, fun hb => by have := h.lt; have := hF _ hb; omega, fun hb => by have := h.flt _ hb; omega, by simp⟩
theorem ks_cell (W : World) (g : Nat) (h : Blk W g 9 #[.string ⟨#[97]⟩, .string ⟨#[98]⟩, .string ⟨#[99]⟩]) (i : Nat) (hi : i < 3) : W.cell? ⟨g, i, none⟩ = some (.string (kS i)) := by
  have : i = 0 ∨ i = 1 ∨ i = 2 := by omega
  rcases this with rfl | rfl | rfl
  · exact (h.cell 0).trans rfl
  · exact (h.cell 1).trans rfl
  · exact (h.cell 2).trans rfl
theorem take_snoc' {α : Type} (l : List α) {j : Nat} {x : α} (h : l[j]? = some x) : l.take (j + 1) = l.take j ++ [x] := by
  obtain ⟨hj, rfl⟩ := List.getElem?_eq_some_iff.1 h
  exact List.take_succ_eq_append_getElem hj

set_option maxRecDepth 100000 in
set_option maxHeartbeats 8000000 in
theorem replays_law (A : Option Addr) (n c : Nat) (w : World) (hW : Wishes w A n) (hn : n ≤ 9223372036854775807) :
    Calls Try.prog 5 #[.slice A n c] w fun e w' => e = .returned (.bool true) ∧ Below w.heap.size w w' := by
  have HW := hide hW
  clear hW
  go_enter Try.func5, Try.ntmps5
  go_wp2_with fail
  refine (examples_any _).mono ?_
  rintro e w1 ⟨rfl, hb1⟩
  have B1 := hide hb1
  clear hb1
  go_wp2_with fail
  refine (new_sk w w1 B1.out).mono ?_
  rintro e w2 ⟨F, B, bv, bl, bd, rfl, h2⟩
  have H1 := hide h2.ss
  clear h2
  go_wp2_with fail
  refine (new_two w w2 H1.out).mono ?_
  rintro e w3 ⟨F2, B2, v2, l2, d2, rfl, h2⟩
  have H2 := hide h2
  clear h2
  go_wp2_with fail
  go_loopg [6] (31) (fun q u wr => ∃ (i : Nat) (F : List Nat) (acc : List Cm), u = .int .i64 (i : Int) ∧ i ≤ 30 ∧ i ≤ n ∧ q = 31 - i ∧ Hid (acc.length ≤ i ∧ ∀ x ∈ acc, few x) ∧ Hid (TW w wr F B bv bl bd acc F2 B2 v2 l2 d2 [] []))
  case atStart => exact ⟨0, F, [], rfl, by omega, by omega, by omega, ⟨Nat.le_refl _, by simp⟩, H2.out⟩
  case round =>
    obtain ⟨i, F, acc, rfl, hi, hin, rfl, LA, HS⟩ := hrel
    by_cases hgo : i < n ∧ i < 30
    · have i1 : (i : Int) < n := by omega
      have i2 : (i : Int) < 30 := by omega
      have i0 : (0 : Int) ≤ i := by omega
      have hlt : i < n := hgo.1
      have h30 : i < 30 := hgo.2
      clear hgo
      obtain ⟨ab, ao, rfl, hab, o, cc, s, k, v, own, d0, d1, d2, d3, d4, d5, hf⟩ := HW.out i hlt
      have bel := HS.out.s.bel
      have e0 := (bel.cell (p := ⟨ab, ao + i * 6, none⟩) hab).trans d0
      have e1 := (bel.cell (p := ⟨ab, ao + i * 6 + 1, none⟩) hab).trans d1
      have e2 := (bel.cell (p := ⟨ab, ao + i * 6 + 2, none⟩) hab).trans d2
      have e3 := (bel.cell (p := ⟨ab, ao + i * 6 + 3, none⟩) hab).trans d3
      have e4 := (bel.cell (p := ⟨ab, ao + i * 6 + 4, none⟩) hab).trans d4
      have e5 := (bel.cell (p := ⟨ab, ao + i * 6 + 5, none⟩) hab).trans d5
      have hlt2 : ab < wr.heap.size := by have := bel.size; omega
      obtain ⟨y, hy⟩ : ∃ y, y = wishC o cc s v := ⟨_, rfl⟩
      have WA := hide (fun W => wish_any o cc s k v W hf.s y hy.symm)
      have WO := hide (wish_ok o cc s v hf.s.1)
      rw [← hy] at WO
      clear d0 d1 d2 d3 d4 d5 bel hf hy
      go_wp2_with fail
      refine (WA.out _).mono ?_
      rintro e w3 ⟨rfl, g3⟩
      have H3 := hide ((HS.out.gr ((Gr.refl wr).alloc _)).below g3)
      clear g3 e0 e1 e2 e3 e4 e5
      go_wp2_with fail
      refine (first_wish H3.out i (by omega) LA.out y WO.out).mono ?_
      rintro e w4 ⟨⟨yv, rv, rfl⟩, F4, acc4, l4, k4, h4⟩
      have H4 := hide h4
      have LA4 := hide (And.intro l4 k4)
      clear h4 l4 k4
      go_wp2_with fail
      go_roundg (31 - (i + 1))
      case measure => omega
      case rel => exact ⟨i + 1, F4, acc4, by go_num, by omega, by omega, rfl, LA4.out, H4.out⟩
    · have hgo2 : ¬ (i : Int) < n ∨ ((i : Int) < n ∧ ¬ (i : Int) < 30) := by omega
      have hl : acc.length ≤ 1000000 := by have := LA.out.1; omega
      have HLN := hide hl
      clear hgo hl
      rcases hgo2 with i1 | ⟨i1, i2⟩
      all_goals
        have HS2 := hide (HS.out.box 9 #[.string ⟨#[97]⟩, .string ⟨#[98]⟩, .string ⟨#[99]⟩])
        have hAL : acc.length ≤ 30 := by have := LA.out.1; omega
        have OKA := hide HS.out.s.ok
        go_wp2_with fail
        obtain ⟨gk, hgk⟩ : ∃ gk, gk = wr.heap.size := ⟨_, rfl⟩
        obtain ⟨WB, hWB⟩ : ∃ WB, WB = wr.alloc (.cells #[.string ⟨#[97]⟩, .string ⟨#[98]⟩, .string ⟨#[99]⟩] 9) := ⟨_, rfl⟩
        rw [← hWB] at HS2 ⊢
        rw [← hgk] at HS2 ⊢
        clear hWB hgk
        go_loopg [9] 4 (fun q u9 wx => ∃ (j : Nat) (G2 : List Nat), u9 = .int .i64 (j : Int) ∧ j ≤ 3 ∧ q = 4 - j ∧ Hid (TW w wx F B bv bl bd acc G2 B2 v2 l2 d2 (replN acc j) [(gk, 9, #[.string ⟨#[97]⟩, .string ⟨#[98]⟩, .string ⟨#[99]⟩])]))
        case atStart => exact ⟨0, F2, rfl, by omega, by omega, HS2.out⟩
        case round =>
          obtain ⟨j, G2, rfl, hj, rfl, HT⟩ := hrel
          by_cases hj3 : j < 3
          · have j1 : (j : Int) < 3 := by omega
            have j0 : (0 : Int) ≤ j := by omega
            obtain ⟨KJ, hKJ⟩ : ∃ KJ, KJ = kS j := ⟨_, rfl⟩
            have hKs : KJ.size = 1 := by rw [hKJ]; exact kS_size j
            have kcell : ∀ W : World, Blk W gk 9 #[.string ⟨#[97]⟩, .string ⟨#[98]⟩, .string ⟨#[99]⟩] → W.cell? ⟨gk, j, none⟩ = some (.string KJ) := fun W h => by rw [hKJ]; exact ks_cell W gk h j hj3
            have KC := hide kcell
            have rk := kcell wr (HT.out.t.blk List.mem_cons_self)
            obtain ⟨l, hl⟩ : ∃ l, l = logOf acc KJ := ⟨_, rfl⟩
            obtain ⟨nl, hnl⟩ : ∃ nl, nl = l.length := ⟨_, rfl⟩
            have hnl30 : nl ≤ 30 := by rw [hnl, hl]; exact Nat.le_trans (List.length_filter_le _ _) hAL
            have LG := hide (log_any HT.out.s KJ (by omega) HLN.out)
            rw [← hl] at LG
            have hmem : ∀ x ∈ l, x ∈ acc ∧ x.k = KJ := by
              intro x hx
              rw [hl] at hx
              obtain ⟨h1, h2⟩ := List.mem_filter.1 hx
              exact ⟨h1, of_decide_eq_true h2⟩
            have MEM := hide hmem
            obtain ⟨v0, hv0⟩ : ∃ v0, (valOf acc KJ).getD ⟨#[]⟩ = v0 := ⟨_, rfl⟩
            obtain ⟨r0, hr0⟩ : ∃ r0, (valOf acc KJ).isSome = r0 := ⟨_, rfl⟩
            have LV := last_val OKA.out.ok KJ
            rw [hv0, hr0, ← hl] at LV
            have LAST := hide LV
            have VA := hide (fun (W : World) F (h : SS w W F B bv bl bd acc) => value_any h KJ (by omega) v0 r0 hv0 hr0)
            have REP : Hid (∀ (p : Nat) x, l[p]? = some x → newC (replN acc j ++ l.take p) x = true ∧ applyC (replN acc j ++ l.take p) x = replN acc j ++ l.take (p + 1)) := by
              intro p x hx
              have h1 := repl_new OKA.out hj3 (j := p) (x := x) (by rw [← hKJ, ← hl]; exact hx)
              rw [← hKJ, ← hl] at h1
              exact h1
            have RLEN : Hid (∀ p, (replN acc j ++ l.take p).length ≤ 1000) := by
              intro p
              have h1 : ∀ i, (replN acc i).length ≤ i * 30 := by
                intro i
                induction i with
                | zero => simp [replN]
                | succ i ih =>
                  have : (logOf acc (kS i)).length ≤ 30 := Nat.le_trans (List.length_filter_le _ _) hAL
                  rw [replN, List.length_append]
                  omega
              have h2 := h1 j
              rw [List.length_append, List.length_take]
              omega
            have RS : Hid (replN acc j ++ l = replN acc (j + 1)) := by rw [hl, hKJ]; rfl
            have HNL := hide hnl
            have FIT := hide HT.out.s.fit
            clear kcell hl hnl hmem hv0 hr0 LV hKJ
            go_wp2_with fail
            refine LG.out.mono ?_
            rintro e w5 ⟨v5, rfl, ho, hb⟩
            rw [← HNL.out] at ho
            obtain ⟨A5, c5, rfl, _⟩ := own_slice ho
            obtain ⟨kl, h5, hkl, hcl⟩ := (HT.out.below hb).row HT.out HNL.out.symm ho
            have H5 := hide h5
            have CL := hide hcl
            clear ho hb h5 hkl hcl rk
            go_wp2_with fail
            go_loopg [11, 12, 13] (nl + 1) (fun q u11 u12 u13 wx => ∃ (p : Nat) (G : List Nat), u11 = .int .i64 (p : Int) ∧ p ≤ nl ∧ q = nl + 1 - p ∧ Hid (TW w wx F B bv bl bd acc G B2 v2 l2 d2 (replN acc j ++ l.take p) (kl ++ [(gk, 9, #[.string ⟨#[97]⟩, .string ⟨#[98]⟩, .string ⟨#[99]⟩])])))
            case atStart => exact ⟨0, G2, rfl, by omega, by omega, by rw [List.take_zero, List.append_nil]; exact H5.out⟩
            case round =>
              obtain ⟨p, G, rfl, hp, rfl, HP⟩ := hrel
              by_cases hpl : p < nl
              · have p1 : (p : Int) < nl := by omega
                have p0 : (0 : Int) ≤ p := by omega
                obtain ⟨x, hx⟩ : ∃ x, l[p]? = some x := ⟨l[p]'(by have := HNL.out; omega), List.getElem?_eq_getElem _⟩
                obtain ⟨g, rfl, hg, x0, x1, x2, x3, x4⟩ := CL.out wr (fun k hk => (HP.out.t.kept k (List.mem_append_left _ hk)).1) p x hx
                obtain ⟨n1, n2⟩ := REP.out p x hx
                obtain ⟨hxa, hxk⟩ := MEM.out x (List.mem_of_getElem? hx)
                have SA := hide (second_at HP.out x (FIT.out x hxa) (by have := RLEN.out p; omega) n1 n2)
                rw [hxk] at x3 SA
                have HXX := hide hx
                clear n1 n2 hxa hxk hx
                go_wp2_with fail
                refine SA.out.mono ?_
                rintro e w6 ⟨⟨rc, rs, rf, rv, rfl⟩, G6, h6⟩
                have h7 := h6.box 38 #[.int .i64 rc, .int .u32 rs, .bool rf, .string rv]
                have H7 := hide h7
                obtain ⟨g', hg', hg2, y0, y1, y2, y3, y4⟩ := CL.out _ (fun k hk => (h7.t.kept k (List.mem_cons_of_mem _ (List.mem_append_left _ hk))).1) p x HXX.out
                obtain rfl : g = g' := by injection hg' with h; injection h
                rw [(MEM.out x (List.mem_of_getElem? HXX.out)).2] at y3
                have rk := KC.out _ (h7.t.blk (List.mem_cons_of_mem _ (List.mem_append_right _ List.mem_cons_self)))
                have hmix := mixed
                clear h6 h7 x0 x1 x2 x3 x4 y0 y1 y2 y4 hg'
                go_wp2_with fail
                go_quiet (fail)
                go_wp2_with fail
                go_roundg (nl + 1 - (p + 1))
                case measure => omega
                case rel => exact ⟨p + 1, G6, by go_num, by omega, rfl, (H7.out.gr ((Gr.refl _).drewN nq)).drop (fun k hk => List.mem_cons_of_mem _ hk)⟩
              · have p1 : ¬ (p : Int) < nl := by omega
                obtain rfl : nl = p := by omega
                have HP2 : Hid (TW w wr F B bv bl bd acc G B2 v2 l2 d2 (replN acc (j + 1)) (kl ++ [(gk, 9, #[.string ⟨#[97]⟩, .string ⟨#[98]⟩, .string ⟨#[99]⟩])])) := by
                  have h1 := HP.out
                  rw [HNL.out, List.take_length, RS.out] at h1
                  exact h1
                have rk := KC.out _ (HP2.out.t.blk (List.mem_append_right _ List.mem_cons_self))
                go_wp2_with fail
                refine (VA.out _ _ HP2.out.s).mono ?_
                rintro e w6 ⟨rfl, rfl⟩
                obtain ⟨ge, hge⟩ : ∃ ge, ge = wr.heap.size := ⟨_, rfl⟩
                have h7 := HP2.out.box 33 #[.int .i64 0, .int .i64 0, .int .u32 0, .string ⟨#[]⟩, .string ⟨#[]⟩]
                rw [← hge] at h7
                have KN : Hid (∀ k ∈ kl ++ [(gk, 9, #[.string ⟨#[97]⟩, .string ⟨#[98]⟩, .string ⟨#[99]⟩])], k.1 ≠ ge) := fun k hk e => by have := (HP2.out.t.kept k hk).1.lt; omega
                have H7 := hide h7
                clear h7 rk
                go_wp2_with fail
                rw [← hge]
                clear hge
                go_loopg [17] (nl + 1) (fun q u17 wx => ∃ (p : Nat), u17 = .int .i64 (p : Int) ∧ p ≤ nl ∧ q = nl + 1 - p ∧ Hid (TW w wx F B bv bl bd acc G B2 v2 l2 d2 (replN acc (j + 1)) ((ge, 33, #[.int .i64 (lastOf (l.take p)).o, .int .i64 (lastOf (l.take p)).c, .int .u32 (lastOf (l.take p)).s, .string (lastOf (l.take p)).k, .string (lastOf (l.take p)).v]) :: (kl ++ [(gk, 9, #[.string ⟨#[97]⟩, .string ⟨#[98]⟩, .string ⟨#[99]⟩])]))))
                case atStart => exact ⟨0, rfl, by omega, by omega, H7.out⟩
                case round =>
                  obtain ⟨p, rfl, hp, rfl, HQ⟩ := hrel
                  by_cases hpl : p < nl
                  · have p1 : (p : Int) < nl := by omega
                    have p0 : (0 : Int) ≤ p := by omega
                    obtain ⟨x, hx⟩ : ∃ x, l[p]? = some x := ⟨l[p]'(by have := HNL.out; omega), List.getElem?_eq_getElem _⟩
                    have hls : lastOf (l.take (p + 1)) = lastS (lastOf (l.take p)) x := by rw [take_snoc' l hx, lastOf_snoc]
                    obtain ⟨g, rfl, hg, x0, x1, x2, x3, x4⟩ := CL.out wr (fun k hk => (HQ.out.t.kept k (List.mem_cons_of_mem _ (List.mem_append_left _ hk))).1) p x hx
                    have eb := HQ.out.t.blk List.mem_cons_self
                    have f0 := eb.frozen 0
                    have f1 := eb.frozen 1
                    have f2 := eb.frozen 2
                    have f3 := eb.frozen 3
                    have f4 := eb.frozen 4
                    obtain ⟨e0, e1, e2, e3, e4⟩ := HQ.out.t.cells5 List.mem_cons_self
                    obtain ⟨la, hla⟩ : ∃ la, la = lastOf (l.take p) := ⟨_, rfl⟩
                    rw [← hla] at hls HQ e0 e1 e2 e3 e4
                    have HLS := hide hls
                    clear hls hla eb hx
                    by_cases h2 : x.o = 2
                    · have q2 : (x.o != 2) = false := by simp [h2]
                      have H2E := hide h2
                      clear h2
                      go_wp2_with fail
                      go_roundg (nl + 1 - (p + 1))
                      case measure => omega
                      case rel => exact ⟨p + 1, by go_num, by omega, rfl, by rw [HLS.out]; unfold lastS; rw [if_pos H2E.out]; exact HQ.out⟩
                    · have q2 : (x.o != 2) = true := by simp [h2]
                      have H2E := hide h2
                      have hset := ((((HQ.out.set_ KN.out 0 (.int .i64 x.o)).set_ KN.out 1 (.int .i64 x.c)).set_ KN.out 2 (.int .u32 x.s)).set_ KN.out 3 (.string x.k)).set_ KN.out 4 (.string x.v)
                      rw [five_set] at hset
                      have HSET := hide hset
                      clear h2 hset
                      go_wp2_with fail
                      go_roundg (nl + 1 - (p + 1))
                      case measure => omega
                      case rel => exact ⟨p + 1, by go_num, by omega, rfl, by rw [HLS.out]; unfold lastS; rw [if_neg H2E.out]; exact HSET.out⟩
                  · have p1 : ¬ (p : Int) < nl := by omega
                    obtain rfl : nl = p := by omega
                    obtain ⟨e0, e1, e2, e3, e4⟩ := HQ.out.t.cells5 List.mem_cons_self
                    have htk : l.take nl = l := by rw [HNL.out, List.take_length]
                    rw [htk] at e0 e4
                    have l1 := LAST.out.1
                    have l2 := LAST.out.2
                    rw [← l2] at e4
                    have q1 : ((lastOf l).o == 1) = r0 := by rw [l1]; rfl
                    obtain ⟨lo, hlo⟩ : ∃ lo, lo = (lastOf l).o := ⟨_, rfl⟩
                    rw [← hlo] at e0 q1
                    clear e1 e2 e3 htk l1 l2 hlo
                    go_wp2_with fail
                    go_roundg (4 - (j + 1))
                    case measure => omega
                    case rel => exact ⟨j + 1, G, by go_num, by omega, rfl, HQ.out.drop (fun k hk => List.mem_cons_of_mem _ (List.mem_append_right _ hk))⟩
          · have j1 : ¬ (j : Int) < 3 := by omega
            obtain rfl : j = 3 := by omega
            have hl2 : (replN acc 3).length = acc.length := repl_len LA.out.2
            have htx : textOf (replN acc 3) = textOf acc := repl_text LA.out.2
            have T1 := hide (fun (W : World) F (h : SS w W F B bv bl bd acc) => text_any h (by omega))
            have T2 := hide (fun (W : World) F (h : SS w W F B2 v2 l2 d2 (replN acc 3)) => text_any h (by omega))
            have M1 := hide (fun (W : World) F (h : SS w W F B bv bl bd acc) => many_any h)
            have M2 := hide (fun (W : World) F (h : SS w W F B2 v2 l2 d2 (replN acc 3)) => many_any h)
            rw [htx] at T2
            rw [hl2] at M2
            obtain ⟨tx, htx2⟩ : ∃ tx : ByteArray, tx = ⟨(textOf acc).toArray⟩ := ⟨_, rfl⟩
            rw [← htx2] at T1 T2
            obtain ⟨mn, hmn⟩ : ∃ mn : Int, mn = (acc.length : Int) := ⟨_, rfl⟩
            rw [← hmn] at M1 M2
            clear hl2 htx htx2 hmn hj hj3 hAL
            go_wp2_with fail
            refine (T1.out _ _ HT.out.s).mono ?_
            rintro e w5 ⟨rfl, b5⟩
            have H5 := hide (HT.out.below b5)
            clear b5
            go_wp2_with fail
            refine (T2.out _ _ H5.out.t.ss).mono ?_
            rintro e w6 ⟨rfl, b6⟩
            have H6 := hide (H5.out.below b6)
            clear b6
            go_wp2_with fail
            refine (M1.out _ _ H6.out.s).mono ?_
            rintro e w7 ⟨rfl, rfl⟩
            go_wp2_with fail
            refine (M2.out _ _ H6.out.t.ss).mono ?_
            rintro e w7 ⟨rfl, rfl⟩
            go_wp2_with fail
            go_ret
            exact ⟨rfl, H6.out.s.bel⟩

end Go.Proofs.Ytfcaneofkdaicaa
