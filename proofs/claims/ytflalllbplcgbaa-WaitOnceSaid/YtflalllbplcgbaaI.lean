/-
  Chapter 18: slices.DeleteFunc at waits whose time is still to come.
-/
import Derived.Test.YtflalllbplcgbaaH
namespace Go.Proofs.Ytflalllbplcgbaa
open Go.RowKit Go.Sort Go.Maps Go.Shelf

def dueL (now : Int) (l : List It) : List It := l.filter fun x => !lateB now x

theorem own_frozen {w : World} {base cap n : Nat} {g o : Nat} {e : TypeId} {xs : List Value} {size : Nat} (h : w.ownsRow base e size (.slice (some ⟨g, 0, none⟩) n cap) n xs) : w.frozen? ⟨g, o, none⟩ = false := by
  rcases h.2 with ⟨h0, _⟩ | ⟨g', cap', cur, hv, _, hh, _⟩
  · cases h0
  · simp only [Value.slice.injEq, Option.some.injEq, Addr.mk.injEq, and_true, true_and] at hv
    obtain ⟨rfl, rfl⟩ := hv
    exact Blk.frozen (t := e) (cs := cur) hh o
theorem own_cap {w : World} {base cap n size : Nat} {g : Nat} {e : TypeId} {xs : List Value} (h : w.ownsRow base e size (.slice (some ⟨g, 0, none⟩) n cap) n xs) : n ≤ cap ∧ cap ≤ maxLen := by
  rcases h.2 with ⟨h0, _⟩ | ⟨g', cap', cur, hv, _, _, hc, hm, _⟩
  · cases h0
  · simp only [Value.slice.injEq, Option.some.injEq, Addr.mk.injEq, and_true, true_and] at hv
    obtain ⟨rfl, rfl⟩ := hv
    exact ⟨hc, hm⟩

theorem take_set_snoc {α : Type} (x : α) : ∀ (M : List α) (i : Nat), i < M.length → (M.set i x).take (i + 1) = M.take i ++ [x]
  | [], i, h => by simp at h
  | y :: r, 0, _ => by simp
  | y :: r, i + 1, h => by
    rw [List.set_cons_succ, List.take_succ_cons, List.take_succ_cons, take_set_snoc x r i (by simpa using h)]
    rfl
theorem drop_set_lt {α : Type} (x : α) : ∀ (M : List α) (i j : Nat), i < j → (M.set i x).drop j = M.drop j
  | [], i, j, _ => by simp
  | y :: r, 0, j + 1, _ => by simp
  | y :: r, i + 1, j + 1, h => by
    rw [List.set_cons_succ, List.drop_succ_cons, List.drop_succ_cons, drop_set_lt x r i j (by omega)]

set_option maxRecDepth 100000 in
set_option maxHeartbeats 4000000 in
theorem del_any (base cap gn : Nat) (A : Option Addr) (l : List It) (now : Int) (w : World) (hl : l.length ≤ 1000000) (h : w.ownsRow base 47 4 (.slice A l.length cap) l.length (cellsL It.cells l)) (hn : Blk w gn 23 #[.int .u64 now]) :
    Calls Try.prog 28 #[.slice A l.length cap, .func (.func 29) #[] #[.pointer (some ⟨gn, 0, none⟩)]] w
      fun e w' => ∃ v, e = .returned v ∧ w'.ownsRow base 47 4 v (dueL now l).length (cellsL It.cells (dueL now l)) ∧ w.grownBy w' (Value.slice A l.length cap).ownBlock := by
  have H := hide h
  have HN := hide hn
  have hz3 : ∀ u ∈ zeroIt.val.cells.toList, u.oneCell' = true := by
    intro u hu
    have : u ∈ zeroIt.cells := by simpa [It.val, It.cells, Value.cells] using hu
    exact It.one _ u this
  have HZ3 := hide hz3
  clear h hn hz3
  go_enter Try.func28, Try.ntmps28
  go_wp2_with fail
  refine (index_any base cap gn A l now w hl H.out ((HN.out.cell 0).trans rfl)).mono ?_
  rintro e w1 ⟨hf, hg1⟩
  have G1 := hide hg1
  clear hg1
  rcases hf with ⟨i, rfl, hi, hall, x0, hx0, hlate⟩ | ⟨rfl, hall⟩
  · obtain ⟨g, cap', hv, hb, hlt⟩ := H.out.form (by omega)
    simp only [Value.slice.injEq, true_and] at hv
    obtain ⟨rfl, rfl⟩ := hv
    have hcap := own_cap H.out
    have hcm := hcap.2
    have hcn := hcap.1
    unfold maxLen at hcm
    have hne : gn ≠ g := fun e => own_blk_ne H.out HN.out (by decide) (by subst e; rfl)
    have NE := hide hne
    have hkeep : (l.take i).filter (fun x => !lateB now x) = l.take i := List.filter_eq_self.2 (fun x hx => List.all_eq_true.1 hall x hx)
    have hstart : (l.take (i + 1)).filter (fun x => !lateB now x) = l.take i := by
      rw [List.take_add_one, hx0, List.filter_append, hkeep]
      simp [hlate]
    have hi1 : ((i : Int) == -1) = false := by rw [beq_eq_false_iff_ne]; omega
    have HST := hide hstart
    have H1 := hide (H.out.kept (row := none) (below_grown_none G1.out.below) (by simp [Value.ownBlock]))
    have GG := hide (only_of_below G1.out.below (some g))
    clear hkeep hstart hall hx0 hlate hne hcap
    go_wp2_with fail
    clear hi1
    go_loopg [5, 6] (l.length - i) (fun q u5 u6 wr => ∃ (i j : Nat) (M : List It), u5 = .int .i64 (i : Int) ∧ u6 = .int .i64 (j : Int) ∧ i < j ∧ j ≤ l.length ∧ q = l.length + 1 - j ∧ Hid (M.length = l.length) ∧
      Hid (M.take i = (l.take j).filter fun x => !lateB now x) ∧ Hid (M.drop j = l.drop j) ∧ Hid (wr.ownsRow base 47 4 (.slice (some ⟨g, 0, none⟩) M.length cap) M.length (cellsL It.cells M)) ∧ Hid (w.grownBy wr (some g)))
    case atStart => exact ⟨i, i + 1, l, rfl, by go_num, by omega, by omega, by omega, rfl, HST.out.symm, rfl, H1.out, GG.out⟩
    case round =>
      obtain ⟨i, j, M, rfl, rfl, hij, hj, rfl, ML, MT, MD, OWN, GR⟩ := hrel
      have hgw : g < wr.heap.size := by have := GR.out.size; omega
      by_cases hltj : j < l.length
      · have j1 : (j : Int) < l.length := by omega
        have j0 : (0 : Int) ≤ j := by omega
        obtain ⟨g', x, hg', _, _, hx, c0, c1, c2, c3⟩ := own_cells OWN.out (i := j) (by rw [ML.out]; exact hltj)
        obtain rfl : g' = g := by injection hg' with e; injection e with e; exact e.symm
        have hxl : l[j]? = some x := by
          have e1 : (M.drop j)[0]? = (l.drop j)[0]? := by rw [MD.out]
          simpa [hx] using e1.symm
        have HXL := hide hxl
        have BN := hide (HN.out.grown GR.out (fun e => NE.out (by injection e)))
        clear hg' hx hxl
        go_wp2_with fail
        refine (late_any x now gn _ ((BN.out.alloc _).cell 0 |>.trans rfl)).mono ?_
        cases hlate : decide (now < x.at_) with
        | true =>
          have L := hide hlate
          clear hlate
          rintro e w2 ⟨rfl, rfl⟩
          go_wp2_with fail
          go_roundg (l.length + 1 - (j + 1))
          case measure => omega
          case rel =>
            refine ⟨i, j + 1, M, rfl, by go_num, by omega, by omega, rfl, ML.out, ?_, ?_, (OWN.out.alloc _).alloc _, only_alloc (only_alloc GR.out _) _⟩
            · show M.take i = _
              rw [MT.out, List.take_add_one, HXL.out, List.filter_append]
              simp [lateB, L.out]
            · show M.drop (j + 1) = _
              rw [← List.drop_drop, MD.out, List.drop_drop]
        | false =>
          have L := hide hlate
          clear hlate
          rintro e w2 ⟨rfl, rfl⟩
          obtain ⟨w3, hw3⟩ : ∃ w3, w3 = (wr.alloc (.cells #[.int .i64 x.o, .int .i64 x.n, .int .u64 x.at_, .int .i64 x.t] 47)).alloc (.cells x.cells.toArray 47) := ⟨_, rfl⟩
          have hown3 : w3.ownsRow base 47 4 (.slice (some ⟨g', 0, none⟩) M.length cap) M.length (cellsL It.cells M) := by rw [hw3]; exact (OWN.out.alloc _).alloc _
          have hgr3 : w.grownBy w3 (some g') := by rw [hw3]; exact only_alloc (only_alloc GR.out _) _
          have hbx : Blk w3 wr.heap.size 47 #[.int .i64 x.o, .int .i64 x.n, .int .u64 x.at_, .int .i64 x.t] := by rw [hw3]; exact (Blk.new wr _ _).alloc _
          rw [← hw3]
          obtain ⟨_, y, hgy, _, _, _, y0, y1, y2, y3⟩ := own_cells hown3 (i := i) (by rw [ML.out]; omega)
          obtain rfl := Addr.mk.inj (Option.some.inj hgy) |>.1
          have f0 := own_frozen (o := i * 4) hown3
          have f1 := own_frozen (o := i * 4 + 1) hown3
          have f2 := own_frozen (o := i * 4 + 2) hown3
          have f3 := own_frozen (o := i * 4 + 3) hown3
          have x0 := (hbx.cell 0).trans rfl
          have x1 := (hbx.cell 1).trans rfl
          have x2 := (hbx.cell 2).trans rfl
          have x3 := (hbx.cell 3).trans rfl
          have i1 : (i : Int) < l.length := by omega
          have i0 : (0 : Int) ≤ i := by omega
          have OST := hide (own_store It.len hown3 i x (by rw [ML.out]; omega))
          have GR3 := hide hgr3
          clear hown3 hgr3 hbx hw3 hgy c0 c1 c2 c3
          go_wp2_with fail
          go_roundg (l.length + 1 - (j + 1))
          case measure => omega
          case rel =>
            refine ⟨i + 1, j + 1, M.set i x, by go_num, by go_num, by omega, by omega, rfl, ?_, ?_, ?_, ?_, only_set (only_set (only_set (only_set GR3.out _ _) _ _) _ _) _ _⟩
            · show (M.set i x).length = l.length
              rw [List.length_set]; exact ML.out
            · show (M.set i x).take (i + 1) = _
              rw [take_set_snoc x M i (by rw [ML.out]; omega), MT.out, List.take_add_one, HXL.out, List.filter_append]
              simp [lateB, L.out]
            · show (M.set i x).drop (j + 1) = _
              rw [drop_set_lt x M i (j + 1) (by omega), ← List.drop_drop, MD.out, List.drop_drop]
            · rw [List.length_set]
              exact OST.out
      · have j1 : ¬ (j : Int) < l.length := by omega
        obtain rfl : j = l.length := by omega
        have hML := ML.out
        have hres : M.take i = dueL now l := by rw [MT.out, List.take_length]; rfl
        have hci := own_cut OWN.out i (by omega) (by simp)
        obtain ⟨w4, hrun, hown4, hgr4, _⟩ := run_clear_own (P := Try.prog) (size := 4) 43 0 zeroIt.val Try.underlying43 (fun W => zero_wait W) rfl HZ3.out (A := some ⟨g, i * 4, none⟩) (m := l.length - i) (c := cap - i) hci (fun _ => rfl) (by omega)
        rw [cellsL_take It.cells It.len M i (by omega), hres] at hown4
        have hlen : (dueL now l).length = i := by rw [← hres, List.length_take]; omega
        have HL := hide hlen
        have O4 := hide hown4
        have G4 := hide hgr4
        have i1 : (i : Int) < l.length := by omega
        have i2 : (i : Int) ≤ cap := by omega
        have i3 : (l.length : Int) ≤ cap := by omega
        have i0 : (0 : Int) ≤ i := by omega
        clear hML hres hci hown4 hgr4 hlen
        go_wp2_with fail
        go_ret
        refine ⟨_, rfl, ?_, only_trans GR.out G4.out⟩
        rw [HL.out]
        exact O4.out
  · have hd : dueL now l = l := List.filter_eq_self.2 (fun x hx => List.all_eq_true.1 hall x hx)
    have HD := hide hd
    have H1 := hide (H.out.kept (row := none) (below_grown_none G1.out.below) (by cases hv : (Value.slice A l.length cap).ownBlock <;> simp))
    clear hd hall
    go_wp2_with fail
    go_ret
    refine ⟨_, rfl, ?_, only_of_below G1.out.below _⟩
    rw [HD.out]
    exact H1.out

end Go.Proofs.Ytflalllbplcgbaa
