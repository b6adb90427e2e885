/-
  Chapter 18: Due: those whose time is come, told and struck.
-/
import Derived.Test.YtflalllbplcgbaaJ
namespace Go.Proofs.Ytflalllbplcgbaa
open Go.RowKit Go.Sort Go.Maps Go.Shelf

/-- One after another struck. -/
def delAll : List It → List It → List It
  | [], l => l
  | x :: r, l => delAll r (delL x.o x.n l)
theorem delAll_snoc (d : List It) (x : It) (l : List It) : delAll (d ++ [x]) l = delL x.o x.n (delAll d l) := by
  induction d generalizing l with
  | nil => rfl
  | cons y r ih => exact ih _

/-- What Due hands back. -/
structure DueIs (w0 w w' : World) (B b : Nat) (l : List It) (now : Int) (v : Value) (s : List It) : Prop where
  own : w'.ownsRow w.heap.size 47 4 v (byAt (dueL now s)).length (cellsL It.cells (byAt (dueL now s)))
  perm : s.Perm l
  sorted : SortedIds s
  ws : WS w0 w' B b (delAll (byAt (dueL now s)) l)
  gr : w.grownBy w' (some b)

theorem swo_at : SWO (ltOf atZ) where
  irrefl x := by simp [ltOf, atZ, cmpZ_neg]
  trans x y z h1 h2 := by simp only [ltOf, atZ, decide_eq_true_eq, cmpZ_neg] at *; omega
  ntrans x y z h1 h2 := by simp only [ltOf, atZ, decide_eq_false_iff_not, cmpZ_neg] at *; omega
theorem byAt_perm (l : List It) : (byAt l).Perm l := by
  have h := (insertionSort_holds (lt := ltOf atZ) swo_at l.toArray 0 l.length (Nat.zero_le _) (by simp)).1
  have hs : l.toArray.size = l.length := by simp
  have hd : (insertionSort (ltOf atZ) l.toArray 0 l.length).size = l.length := by rw [insertionSort_size, hs]
  have h2 := h.2.2
  have ex : ∀ (d : Array It) (n : Nat), d.size = n → d.extract 0 n = d := fun d n h => by subst h; exact Array.extract_size
  rw [ex _ _ hd, ex _ _ hs, List.toList_toArray] at h2
  exact h2

theorem own_slice' {w : World} {base size n : Nat} {e : TypeId} {v : Value} {xs : List Value} (h : w.ownsRow base e size v n xs) : ∃ A c, v = .slice A n c := own_slice h

theorem atFn_eq : atFn = Value.func (.func 31) #[] #[] := rfl

def DueEnds (w0 w : World) (B b : Nat) (l : List It) (now : Int) (e : Ending) (w' : World) : Prop := ∃ v s, e = .returned v ∧ DueIs w0 w w' B b l now v s

set_option maxRecDepth 100000 in
set_option maxHeartbeats 1000000 in
theorem due_any (w0 w : World) (B b : Nat) (l : List It) (now : Int) (hl : l.length ≤ 1000000) (h : WS w0 w B b l) (h20 : ∀ s : List It, s.Perm l → (dueL now s).length ≤ 20) :
    Calls Try.prog 19 #[.pointer (some ⟨B, 0, none⟩), .int .u64 now] w (DueEnds w0 w B b l now) := by
  have W0 := hide h
  have H20 := hide h20
  clear h h20
  go_enter Try.func19, Try.ntmps19
  go_wp2_with fail
  have hbox : Blk (w.alloc (.cells #[.int .u64 now] 23)) w.heap.size 23 #[.int .u64 now] := Blk.new _ _ _
  refine (all_any w0 _ B b l hl (W0.out.alloc _)).mono ?_
  rintro e w1 ⟨v1, s, rfl, ha⟩
  have HA := hide ha
  have hsl : s.length ≤ 1000000 := by rw [ha.perm.length_eq]; exact hl
  obtain ⟨A1, c1, rfl⟩ := own_slice' ha.own
  have HB := hide (hbox.below ha.bel hbox.lt)
  clear ha hbox
  go_wp2_with fail
  refine (del_any _ c1 w.heap.size A1 s now w1 hsl HA.out.own HB.out).mono ?_
  rintro e w2 ⟨v2, rfl, ho2, hg2⟩
  have O2 := hide ho2
  have hB2 : Below w.heap.size w w2 := by
    have h1 := ((Below.refl w.heap.size w).alloc (Nat.le_refl _) (.cells #[.int .u64 now] 23)).trans (HA.out.bel.mono (by simp))
    have hs := h1.size
    exact h1.grown hg2 hs (fun g e => by have := (HA.out.own.lt g e).1; simp at this; omega)
  have W2 := hide (HA.out.ws.grown hg2 (fun e => by have := (HA.out.own.lt B e.symm).1; have := W0.out.blk.lt; simp at *; omega) (fun e => by have := (HA.out.own.lt b e.symm).1; have := W0.out.map.lt; simp at *; omega) (fun g e => by have := (HA.out.own.lt g e).1; have := W0.out.bel.size; simp at *; omega))
  have B2 := hide hB2
  clear ho2 hg2 hB2
  go_wp2_with fail
  refine (sortStable_any _ v2 (dueL now s) w2 O2.out (H20.out s HA.out.perm)).mono ?_
  rintro e w3 ⟨rfl, ho3, hg3⟩
  obtain ⟨D, hD⟩ : ∃ D, D = byAt (dueL now s) := ⟨_, rfl⟩
  have hDl : D.length = (dueL now s).length := by rw [hD, byAt_len]
  rw [← hD, ← hDl] at ho3
  have hD20 : D.length ≤ 20 := by rw [hDl]; exact H20.out s HA.out.perm
  have DD := hide hD
  obtain ⟨A3, c3, rfl⟩ := own_slice' ho3
  have O3 := hide ho3
  have B3 := hide (B2.out.grown hg3 B2.out.size (fun g e => by have := (O2.out.lt g e).1; simp at this; omega))
  have W3 := hide (W2.out.grown hg3 (fun e => by have := (O2.out.lt B e.symm).1; have := W0.out.blk.lt; simp at *; omega) (fun e => by have := (O2.out.lt b e.symm).1; have := W0.out.map.lt; simp at *; omega) (fun g e => by have := (O2.out.lt g e).1; have := W0.out.bel.size; simp at *; omega))
  clear ho3 hg3 hD hDl
  go_wp2_with fail
  have OK := hide (show ∀ x ∈ D, x.Ok from fun x hx => W0.out.ok x (HA.out.perm.mem_iff.1 ((List.mem_filter.1 ((byAt_perm _).mem_iff.1 (DD.out ▸ hx))).1)))
  go_loopg [16] (D.length + 1) (fun q i wr => ∃ k : Nat, i = .int .i64 (k : Int) ∧ k ≤ D.length ∧ q = D.length + 1 - k ∧ Hid (WS w0 wr B b (delAll (D.take k) l)) ∧
    Hid (wr.ownsRow (w.alloc (.cells #[.int .u64 now] 23)).heap.size 47 4 (.slice A3 D.length c3) D.length (cellsL It.cells D)) ∧ Hid (w.grownBy wr (some b)))
  case atStart => exact ⟨0, rfl, by omega, by omega, W3.out, O3.out, only_of_below B3.out _⟩
  case round =>
    obtain ⟨k, rfl, hk, rfl, WR, OR, BR⟩ := hrel
    by_cases hlt : k < D.length
    · have k1 : (k : Int) < D.length := by omega
      have k0 : (0 : Int) ≤ k := by omega
      obtain ⟨g, x, rfl, hbg, hlg, hx, x0, x1, x2, x3⟩ := own_cells OR.out hlt
      have hxo := OK.out x (List.mem_of_getElem? hx)
      have HX := hide hx
      have HXO := hide hxo
      clear hx hxo
      go_wp2_with fail
      refine (stop_any w0 _ B b _ x.o x.n HXO.out.1 HXO.out.2.1 (WR.out.alloc _)).mono ?_
      rintro e w4 ⟨rfl, h4, g4⟩
      have H4 := hide h4
      have G4 := hide g4
      clear h4 g4
      go_wp2_with fail
      go_roundg (D.length + 1 - (k + 1))
      case measure => omega
      case rel =>
        have hbb := W0.out.map.lt
        refine ⟨k + 1, by go_num, by omega, rfl, ?_, ?_, ?_⟩
        · show WS w0 w4 B b (delAll (D.take (k + 1)) l)
          rw [List.take_add_one, HX.out]
          show WS w0 w4 B b (delAll (D.take k ++ [x]) l)
          rw [delAll_snoc]
          exact H4.out
        · exact (OR.out.alloc _).kept G4.out (.inr (fun e => by have := (OR.out.lt b e).1; simp at this; omega))
        · exact only_trans (only_alloc BR.out _) G4.out
    · have k1 : ¬ (k : Int) < D.length := by omega
      obtain rfl : k = D.length := by omega
      have hwr := WR.out
      rw [List.take_length] at hwr
      have FIN : Hid (DueIs w0 w wr B b l now (.slice A3 D.length c3) s) := by
        have hd := DD.out
        subst hd
        exact ⟨own_mono OR.out (by simp), HA.out.perm, HA.out.sorted, hwr, BR.out⟩
      clear hwr
      go_wp2_with fail
      go_ret
      exact ⟨_, s, rfl, FIN.out⟩

end Go.Proofs.Ytflalllbplcgbaa
