/-
  Chapter 18: All: those that wait, gone through in whatever order, and sorted.
-/
import Derived.Test.YtflalllbplcgbaaF
import Derived.Test.YtflalllbplcgbaaRow
namespace Go.Proofs.Ytflalllbplcgbaa
open Go.RowKit Go.Sort Go.Maps Go.Shelf

theorem wait_info : (Try.prog.info? 47).map (fun i => (i.zero, i.size, i.bytes)) = some (some zeroIt.val, 4, 32) := by kernel_rfl

theorem perm_map_cons {α β : Type} (f : α → β) {L : List α} {y : β} {r : List β} (h : (L.map f).Perm (y :: r)) : ∃ x L', L.Perm (x :: L') ∧ y = f x ∧ r.Perm (L'.map f) := by
  have hy : y ∈ L.map f := h.mem_iff.2 List.mem_cons_self
  obtain ⟨x, hx, rfl⟩ := List.mem_map.1 hy
  obtain ⟨s, t, rfl⟩ := List.append_of_mem hx
  refine ⟨x, s ++ t, List.perm_middle, rfl, ?_⟩
  have h2 : (f x :: (s ++ t).map f).Perm (f x :: r) := by
    refine List.Perm.trans ?_ h
    rw [List.map_append, List.map_append, List.map_cons]
    exact List.perm_middle.symm
  exact (List.Perm.cons_inv h2).symm

theorem Ranging.perm {P : Program} {k : TypeId} {w : World} {b r : Nat} {m left left2 : List (Value × Value)} (h : Ranging P k w b r m left) (hp : left2.Perm left) : Ranging P k w b r m left2 := by
  obtain ⟨es, clock, since, seen, c0, h1, h2, h3, h4, h5, h6, h7, h8⟩ := h
  exact ⟨es, clock, since, seen, c0, h1, h2, h3, h4, h5, h6, hp.trans h7, h8⟩

theorem own_mono {w : World} {base base' size n : Nat} {e : TypeId} {v : Value} {xs : List Value} (h : w.ownsRow base e size v n xs) (hb : base' ≤ base) : w.ownsRow base' e size v n xs := by
  refine ⟨h.1, ?_⟩
  rcases h.2 with h | ⟨g, cap, cur, h1, h2, h3⟩
  · exact .inl h
  · exact .inr ⟨g, cap, cur, h1, Nat.le_trans hb h2, h3⟩
theorem own_far {w w' : World} {base size n g : Nat} {e : TypeId} {v : Value} {xs : List Value} (h : w.ownsRow base e size v n xs) (hg : w.grownBy w' (some g)) (hlt : g < base) : w'.ownsRow base e size v n xs :=
  h.kept hg (.inr (fun e => by have := (h.lt g e).1; omega))

/-- Told in order: by their instances. -/
def SortedIds (l : List It) : Prop := l.Pairwise fun x y => ¬ (y.o < x.o ∨ (y.o = x.o ∧ y.n < x.n))

theorem sorted_ids {d d' : Array It} {n : Nat} (hn : d'.size = n) (h : SortedIn (ltOf idZ) 0 n d') : SortedIds d'.toList := by
  unfold SortedIds
  rw [List.pairwise_iff_getElem]
  intro i j hi hj hij
  have := h i j (Nat.zero_le _) hij (by simpa [← hn] using hj)
  rw [idZ_not, getElem!_pos d' j (by simpa using hj), getElem!_pos d' i (by simpa using hi)] at this
  simpa using this

/-- What All hands back. -/
structure AllIs (w0 w w' : World) (B b : Nat) (l : List It) (v : Value) (l' : List It) : Prop where
  own : w'.ownsRow w.heap.size 47 4 v l'.length (cellsL It.cells l')
  perm : l'.Perm l
  sorted : SortedIds l'
  ws : WS w0 w' B b l
  bel : Below w.heap.size w w'

/-- The library's sort at waits. -/
theorem sort_waits (w : World) (base g cap : Nat) (l : List It) (hn : l.length ≤ 1000000) (h : w.ownsRow base 47 4 (.slice (some ⟨g, 0, none⟩) l.length cap) l.length (cellsL It.cells l)) :
    Calls Try.prog 35 #[.slice (some ⟨g, 0, none⟩) l.length cap, .func (.func 36) #[] #[]] w fun e w' => e = .returned (.tuple #[]) ∧
      ∃ l', l'.Perm l ∧ SortedIds l' ∧ w'.ownsRow base 47 4 (.slice (some ⟨g, 0, none⟩) l'.length cap) l'.length (cellsL It.cells l') ∧ w.grownBy w' (some g) := by
  have hlt := (h.lt g rfl).2
  have hs : l.toArray.size = l.length := by simp
  have h1 := AnyQ.slices_SortFunc lay_sortW 4 Try.isAgg47 Try.sizeOf47 It.cells It.len It.one idZ swo_id 36 #[] g 0 cap l.toArray w byId_enters (byId_lays g _ w) (holdsK_own It.len h) hlt (by omega)
  rw [hs] at h1
  refine h1.mono ?_
  rintro e w' ⟨he, d', n, os, hp, hsrt, rfl⟩
  have hd : d'.size = l.length := by rw [hp.1, hs]
  have hperm : d'.toList.Perm l := by
    have h2 := hp.2.2
    rwa [show d'.extract 0 l.length = d' from by rw [← hd]; exact Array.extract_size, show l.toArray.extract 0 l.length = l.toArray from by rw [← hs]; exact Array.extract_size, List.toList_toArray] at h2
  refine ⟨he, d'.toList, hperm, sorted_ids (d := d') hd hsrt, ?_, sortWorldK_grown hlt _ _ _⟩
  have h3 := own_sorted It.len h (l' := d'.toList) (by rw [hperm.length_eq]) n os
  rwa [Array.toArray_toList] at h3

theorem sort_none (fv : Value) (w : World) : Calls Try.prog 35 #[.slice none 0 0, fv] w fun e w' => e = .returned (.tuple #[]) ∧ w' = w :=
  AnyF.slices_SortFunc_none lay_sortW none 0 fv w

/-- .. at a row of the call's own, or none. -/
theorem sort_own (w : World) (base : Nat) (v : Value) (l : List It) (hn : l.length ≤ 1000000) (h : w.ownsRow base 47 4 v l.length (cellsL It.cells l)) :
    Calls Try.prog 35 #[v, .func (.func 36) #[] #[]] w fun e w' => e = .returned (.tuple #[]) ∧
      ∃ l', l'.Perm l ∧ SortedIds l' ∧ w'.ownsRow base 47 4 v l'.length (cellsL It.cells l') ∧ w.grownBy w' v.ownBlock := by
  rcases h.2 with ⟨rfl, hz⟩ | ⟨g, cap, cur, rfl, _⟩
  · obtain rfl : l = [] := List.eq_nil_of_length_eq_zero hz
    refine (sort_none _ w).mono ?_
    rintro e w' ⟨rfl, rfl⟩
    exact ⟨rfl, [], List.Perm.refl _, List.Pairwise.nil, h, World.grownBy.refl _ _⟩
  · refine (sort_waits w base g cap l hn h).mono ?_
    rintro e w' ⟨rfl, l', h1, h2, h3, h4⟩
    refine ⟨rfl, l', h1, h2, ?_, h4⟩
    rw [h1.length_eq] at h3 ⊢
    exact h3

set_option maxRecDepth 100000 in
set_option maxHeartbeats 4000000 in
theorem all_any (w0 w : World) (B b : Nat) (l : List It) (hl : l.length ≤ 1000000) (h : WS w0 w B b l) :
    Calls Try.prog 23 #[.pointer (some ⟨B, 0, none⟩)] w fun e w' => ∃ v l', e = .returned v ∧ AllIs w0 w w' B b l v l' := by
  obtain ⟨i0, hi0, hz0, hz1, hz2⟩ := info_parts wait_info
  have c0 := h.cell
  have W0 := hide h
  clear h
  go_enter Try.func23, Try.ntmps23
  go_wp2_with (at_range; go_must (refine wpList_range_map _ rfl _ 65 rfl Try.underlying65 rfl W0.out.map ?_); intro w1 hr1 hb1 hs1; have R1 := hide hr1; have B1 := hide hb1; have S1 := hide hs1; clear hr1 hb1 hs1)
  go_frame
  go_loopg [3] (l.length + 1) (fun q v wr => ∃ left done : List It, q = left.length + 1 ∧ Hid ((done ++ left).Perm l) ∧ Hid (wr.ownsRow (w.heap.size + 1) 47 4 v done.length (cellsL It.cells done)) ∧
    Hid (Ranging Try.prog 36 wr b w.heap.size (l.map It.entry) (left.map It.entry)) ∧ Hid (Below w.heap.size w wr) ∧ Hid (w.heap.size + 1 ≤ wr.heap.size))
  case atStart => exact ⟨l, [], rfl, List.Perm.refl _, World.ownsRow_nil _ _ _ _, R1.out, B1.out, Nat.le_of_eq S1.out.symm⟩
  case round =>
    obtain ⟨left, done, rfl, PM, OWN, RG, BL, SZ⟩ := hrel
    have hlen : done.length + left.length = l.length := by have := PM.out.length_eq; simpa using this
    go_wp2_with (at_next; go_must (refine wpList_next_map _ rfl _ rfl w.heap.size _ rfl RG.out ?_ ?_))
    · intro hnil
      have NIL := hide hnil
      clear hnil
      have HS := hide (sort_own wr (w.heap.size + 1) u3 done (by omega) OWN.out)
      go_wp2_with fail
      refine HS.out.mono ?_
      rintro e w3 ⟨rfl, l', hp, hs, hown, hgr⟩
      have hbel : Below w.heap.size w w3 := BL.out.grown hgr (by have := SZ.out; omega) (fun g hg => by have := (OWN.out.lt g hg).1; omega)
      have hpm := PM.out
      rw [NIL.out, List.append_nil] at hpm
      have FIN : Hid (AllIs w0 w w3 B b l u3 l') := ⟨own_mono hown (by omega), hp.trans hpm, hs, W0.out.below hbel, hbel⟩
      clear hp hs hown hgr hbel hpm
      go_wp2_with fail
      go_ret
      exact ⟨u3, l', rfl, FIN.out⟩
    · intro key val left' w2 hperm hrg hgr hsz hen
      obtain ⟨x, L', hp, hkv, hp2⟩ := perm_map_cons It.entry hperm
      obtain ⟨rfl, rfl⟩ : key = keyV x.o x.n ∧ val = x.val := by injection hkv with a b; exact ⟨a, b⟩
      have RG2 := hide (hrg.perm hp2.symm)
      have G2 := hide hgr
      have HP := hide hp
      unfold keyV It.val at hen
      unfold keyV It.val
      have S2 := hide hsz
      clear hperm hrg hgr hkv hp2 hp hsz
      have hsz := SZ.out
      have hbl : b < w.heap.size := W0.out.map.lt
      have OWN2 := hide (own_far OWN.out G2.out (Nat.lt_succ_self _))
      go_wp2_with (at_builtin; go_must (refine wpList_append_any _ rfl (.tmp 15) (.tmp 17) 43 rfl (w.heap.size + 1) 47 i0 zeroIt.val 4 32 Try.underlying43 hi0 hz0 hz1 hz2 rfl (by omega) u3 done.length (cellsL It.cells done) rfl ((OWN2.out.alloc _).alloc _) _ _ 1 1 x.cells rfl (Reads.newAt (by simp) 1 4 rfl rfl) (It.one x) (by simp only [maxLen]; omega) (by omega) (by have := S2.out; simp; omega) ?_); intro v1 w3 hown hgr hv1; have O3 := hide hown; have G3 := hide hgr; clear hown hgr hv1)
      have hs2 := S2.out
      have hne : ∀ g, g < w.heap.size + 1 → some g ≠ u3.ownBlock := fun g hg e => by have := (OWN.out.lt g e.symm).1; omega
      have RG3 := hide ((((RG2.out.alloc _).alloc _).grown G3.out (hne b (by omega)) (hne w.heap.size (by omega))))
      have hb2 := below_only BL.out G2.out (by omega) (Nat.le_refl _)
      have hb3 := ((hb2.alloc (by omega) _).alloc (by simp; omega) _).grown G3.out (by simp; omega) (fun g hg => by have := (OWN.out.lt g hg).1; omega)
      have hs3 := G3.out.size
      go_roundg (L'.length + 1)
      case measure => have := HP.out.length_eq; simp at this; omega
      case rel =>
        refine ⟨L', done ++ [x], rfl, ?_, ?_, RG3.out, hb3, ?_⟩
        · show ((done ++ [x]) ++ L').Perm l
          rw [List.append_assoc]
          exact ((List.Perm.append_left done HP.out).symm).trans PM.out
        · rw [List.length_append, cellsL_snoc]; exact O3.out
        · simp at hs3; show _ ≤ _; omega

end Go.Proofs.Ytflalllbplcgbaa
