/-
  Chapter 05: Order, walked, of at most 20 places.
-/
import Derived.Test.YteciaffioiiceabE
namespace Go.Proofs.Yteciaffioiiceab
open Go.RowKit Go.Sort Go.Lib Go.Shelf

theorem int_info : (Try.prog.info? 3).map (fun i => (i.zero, i.size, i.bytes)) = some (some (.int .i64 0), 1, 8) := by kernel_rfl

set_option maxHeartbeats 400000 in
theorem ins_none (fv : Value) (w : World) :
    Calls Try.prog 18 #[.slice none 0 0, .int .i64 0, .int .i64 0, fv] w fun e w' => e = .returned (.tuple #[]) ∧ w = w' := by
  go_enter Try.func18, Try.ntmps18
  go_wp2_with fail
  refine wp_loop_rounds 1 ?_
  rw [rounds_succ]
  go_wp2_with fail
  go_end0
  exact ⟨rfl, rfl⟩
set_option maxHeartbeats 400000 in
theorem stable_none (fv : Value) (w : World) :
    Calls Try.prog 15 #[.slice none 0 0, .int .i64 0, fv] w fun e w' => e = .returned (.tuple #[]) ∧ w = w' := by
  go_enter Try.func15, Try.ntmps15
  go_wp2_with fail
  refine wp_loop_rounds 1 ?_
  rw [rounds_succ]
  go_wp2_with fail
  refine (ins_none _ _).mono ?_
  rintro e w' ⟨rfl, rfl⟩
  go_wp2_with fail
  refine wp_loop_rounds 1 ?_
  rw [rounds_succ]
  go_wp2_with fail
  go_end0
  exact ⟨rfl, rfl⟩
set_option maxHeartbeats 400000 in
theorem sort_none (fv : Value) (w : World) :
    Calls Try.prog 11 #[.slice none 0 0, fv] w fun e w' => e = .returned (.tuple #[]) ∧ w = w' := by
  go_enter Try.func11, Try.ntmps11
  go_wp2_with fail
  refine (stable_none _ _).mono ?_
  rintro e w' ⟨rfl, rfl⟩
  go_wp2_with fail
  go_end0
  exact ⟨rfl, rfl⟩

/-- Those that are told: going round from 'a0' on, but 'me'. -/
def candL (len : Nat) (hl : 0 < len) (a0 : Nat) (me : Int) : Nat → List (Fin len)
  | 0 => []
  | n + 1 => candL len hl a0 me n ++ if (((a0 + n) % len : Nat) : Int) = me then [] else [⟨(a0 + n) % len, Nat.mod_lt _ hl⟩]

theorem candL_le (len : Nat) (hl : 0 < len) (a0 : Nat) (me : Int) (n : Nat) : (candL len hl a0 me n).length ≤ n := by
  induction n with
  | zero => simp [candL]
  | succ n ih => rw [candL]; split <;> simp <;> omega

theorem encF_one {len : Nat} (l : List (Fin len)) : ∀ u ∈ l.map encF, u.oneCell' = true := by
  intro u hu
  obtain ⟨x, _, rfl⟩ := List.mem_map.1 hu
  rfl

/-- What Order hands back. -/
def Ordered (len : Nat) [Inhabited (Fin len)] (F : Nat × Nat) (P : Nat → Nat × Nat) (l : List (Fin len)) (w : World) (e : Ending) (w' : World) : Prop :=
  ∃ A cap, e = .returned (.slice A l.length cap) ∧ Reads w' w'.heap.size 1 A l.length ((insertionSort (ltF (farF F P)) l.toArray 0 l.length).toList.map encF) ∧ Below w.heap.size w w'

theorem Blk.held {w : World} {g : Nat} {t : TypeId} {u : Value} (h : Blk w g t #[u]) : w.cell? ⟨g, 0, none⟩ = some u := (h.cell 0).trans rfl

set_option maxHeartbeats 4000000 in
theorem order_tail (len : Nat) [Inhabited (Fin len)] (hl : 0 < len) (ab c : Nat) (me : Int) (a0 : Nat) (F : Nat × Nat) (P : Nat → Nat × Nat) (w wr : World) (v : Value)
    (h20 : len ≤ 20) (hab : ab < w.heap.size) (hp : ∀ x, x < len → wr.cell? ⟨ab, x, none⟩ = some (.complex .f64 (P x).1 (P x).2)) (hfar : ∀ x, x < len → FarOk F.1 F.2 (P x).1 (P x).2)
    (h0 : wr.cell? ⟨w.heap.size + 1, 0, none⟩ = some (.complex .f64 F.1 F.2)) (h1 : wr.cell? ⟨w.heap.size, 0, none⟩ = some (.slice (some ⟨ab, 0, none⟩) len c))
    (l : List (Fin len)) (hl20 : l.length ≤ 20) (hown : wr.ownsRow (w.heap.size + 2) 3 1 v l.length (l.map encF)) (hb : Below w.heap.size w wr) (hs : w.heap.size + 2 ≤ wr.heap.size) :
    Calls Try.prog 11 #[v, .func (.func 12) #[] #[.pointer (some ⟨w.heap.size + 1, 0, none⟩), .pointer (some ⟨w.heap.size, 0, none⟩)]] wr
      fun e w' => e = .returned (.tuple #[]) ∧ Ordered len F P l w (.returned v) w' := by
  rcases hown.2 with ⟨hv, hz⟩ | ⟨g, cap, cur, rfl, hg, hh, hc, hm, hsz, ht⟩
  · have hz : l.length = 0 := hz
    obtain rfl : l = [] := List.eq_nil_of_length_eq_zero hz
    subst hv
    refine (sort_none _ _).mono ?_
    rintro e w' ⟨rfl, rfl⟩
    exact ⟨rfl, none, 0, rfl, by rw [show (insertionSort (ltF (farF F P)) ([] : List (Fin len)).toArray 0 ([] : List (Fin len)).length) = #[] from ins_end _ _ _]; exact Reads.none_, hb⟩
  · have hsize : l.toArray.size = l.length := by simp
    have hblk : Blk wr g 3 cur := hh
    have hcell : ∀ j, j < l.toArray.size → wr.cell? ⟨g, 0 + j, none⟩ = some (encF l.toArray[j]!) ∧ wr.frozen? ⟨g, 0 + j, none⟩ = false := by
      intro j hj
      have hj' : j < l.length := by simpa using hj
      refine ⟨?_, hblk.frozen _⟩
      rw [Nat.zero_add, hblk.cell j]
      have e1 : (cur.toList.take (l.length * 1))[j]? = (l.map encF)[j]? := by rw [ht]
      rw [List.getElem?_take, if_pos (by omega), List.getElem?_map, List.getElem?_eq_getElem hj'] at e1
      rw [getElem!_pos l.toArray j hj]
      simpa using e1
    have hask : Asks wr (w.heap.size + 1) w.heap.size ab len c g F P := ⟨h0, h1, hp, hfar, by omega, by omega, by omega, by omega, by omega, by have := hb.size; omega⟩
    have c1 := sort_any cap l.toArray wr hask hcell (by rw [hsize]; exact hl20)
    rw [hsize] at c1
    refine c1.mono ?_
    rintro e w' ⟨rfl, n, rfl⟩
    have hr : (insertionSort (ltF (farF F P)) l.toArray 0 l.length).size = l.length := by rw [insertionSort_size]; simp
    refine ⟨rfl, _, cap, rfl, ⟨by simp [hr], fun _ => ⟨_, rfl, ?_, ?_⟩⟩, below_drewN (below_putRow w hb (by omega)) n⟩
    · show g < ((putRow encF wr g 0 _).drewN n).heap.size
      rw [show ∀ X : World, (X.drewN n).heap.size = X.heap.size from fun _ => rfl, size_putRow']
      exact hblk.lt
    · intro j u hu
      have hhold := holds_putRow encF wr g 0 l.toArray (insertionSort (ltF (farF F P)) l.toArray 0 l.length) hcell (by rw [hr, hsize])
      rw [List.getElem?_map, Option.map_eq_some_iff] at hu
      obtain ⟨x, hx, rfl⟩ := hu
      have hj : j < (insertionSort (ltF (farF F P)) l.toArray 0 l.length).size := by
        have := (List.getElem?_eq_some_iff.1 hx).1
        simpa using this
      have h2 := (hhold j hj).1
      rw [getElem!_pos _ j hj] at h2
      have hx2 : (insertionSort (ltF (farF F P)) l.toArray 0 l.length)[j] = x := by
        have := (List.getElem?_eq_some_iff.1 hx).2
        simpa using this
      rw [hx2] at h2
      rw [show (⟨g, 0, none⟩ : Addr).add j = ⟨g, 0 + j, none⟩ from by unfold Addr.add; split <;> simp_all]
      exact h2

theorem candL_skip {len a0 n a kk : Nat} {me : Int} (hl : 0 < len) (h : a = a0 + n) (hk : kk = a % len) (he : (kk : Int) = me) : candL len hl a0 me (n + 1) = candL len hl a0 me n := by
  subst h hk
  rw [candL, if_pos he, List.append_nil]
theorem candL_push {len a0 n a kk : Nat} {me : Int} (hl : 0 < len) (h : a = a0 + n) (hk : kk = a % len) (he : ¬ (kk : Int) = me) (hkl : kk < len) : candL len hl a0 me (n + 1) = candL len hl a0 me n ++ [⟨kk, hkl⟩] := by
  subst h hk
  rw [candL, if_neg he]

/-- Ahead of the loop: the boxes of the list and of the place that asks. -/
def W0 (w : World) (ab len c : Nat) (F : Nat × Nat) : World := (w.alloc (.cells #[.slice (some ⟨ab, 0, none⟩) len c] 23)).alloc (.cells #[.complex .f64 F.1 F.2] 28)
theorem W0_size (w : World) (ab len c : Nat) (F : Nat × Nat) : (W0 w ab len c F).heap.size = w.heap.size + 2 := by simp [W0]
theorem W0_below (w : World) (ab len c : Nat) (F : Nat × Nat) : Below w.heap.size w (W0 w ab len c F) := ((Below.refl _ _).alloc (Nat.le_refl _) _).alloc (by simp) _
theorem W0_from (w : World) (ab len c : Nat) (F : Nat × Nat) : (W0 w ab len c F).cell? ⟨w.heap.size + 1, 0, none⟩ = some (.complex .f64 F.1 F.2) := by
  have h := (Blk.new (w.alloc (.cells #[.slice (some ⟨ab, 0, none⟩) len c] 23)) 28 #[.complex .f64 F.1 F.2]).cell 0
  rw [World.size_alloc] at h
  exact h.trans rfl
theorem W0_list (w : World) (ab len c : Nat) (F : Nat × Nat) : (W0 w ab len c F).cell? ⟨w.heap.size, 0, none⟩ = some (.slice (some ⟨ab, 0, none⟩) len c) :=
  (((Blk.new w 23 #[.slice (some ⟨ab, 0, none⟩) len c]).alloc _).cell 0).trans rfl

set_option maxHeartbeats 4000000 in
theorem order_in (len : Nat) [Inhabited (Fin len)] (hl : 0 < len) (ab c : Nat) (me : Int) (f1 f2 : Nat) (P : Nat → Nat × Nat) (w : World)
    (h20 : len ≤ 20) (hab : ab < w.heap.size) (hp : ∀ x, x < len → w.cell? ⟨ab, x, none⟩ = some (.complex .f64 (P x).1 (P x).2)) (hfar : ∀ x, x < len → FarOk f1 f2 (P x).1 (P x).2)
    (k0 : 0 ≤ me) (k1 : me < len) (hF : (P me.toNat).1 = f1 ∧ (P me.toNat).2 = f2) :
    Calls Try.prog 5 #[.slice (some ⟨ab, 0, none⟩) len c, .int .i64 me] w (Ordered len (f1, f2) P (candL len hl (me.toNat + 1) me len) w) := by
  obtain ⟨i0, hi0, hz0, hz1, hz2⟩ := info_parts int_info
  have hlen : (0 : Int) < len := by omega
  have HP : ∀ wr : World, Below w.heap.size w wr → ∀ x, x < len → wr.cell? ⟨ab, x, none⟩ = some (.complex .f64 (P x).1 (P x).2) := fun wr hb x hx => (hb.cell (p := ⟨ab, x, none⟩) hab).trans (hp x hx)
  have HP2 := hide HP
  have HF := hide hfar
  clear HP hfar
  have est := fun (W : World) (a : Addr) => run_store Try.prog W a (.complex .f64 f1 f2) .plain rfl
  have hck := hp me.toNat (by omega)
  rw [hF.1, hF.2] at hck
  have hg : decide ((0 : Int) ≤ me) = true := by simp [k0]
  clear hp hF
  · go_enter Try.func5, Try.ntmps5
    go_wp2_with fail
    obtain ⟨WW, hWW⟩ : ∃ WW : World, WW = W0 w ab len c (f1, f2) := ⟨_, rfl⟩
    have hsz : WW.heap.size = w.heap.size + 2 := by rw [hWW]; exact W0_size _ _ _ _ _
    have hbw : Below w.heap.size w WW := by rw [hWW]; exact W0_below _ _ _ _ _
    have hc0 : WW.cell? ⟨w.heap.size + 1, 0, none⟩ = some (.complex .f64 f1 f2) := by rw [hWW]; exact W0_from _ _ _ _ _
    have hc1 : WW.cell? ⟨w.heap.size, 0, none⟩ = some (.slice (some ⟨ab, 0, none⟩) len c) := by rw [hWW]; exact W0_list _ _ _ _ _
    unfold W0 at hWW
    rw [← hWW]
    have HSZ := hide hsz
    have HC0 := hide hc0
    have HC1 := hide hc1
    have HBW := hide hbw
    clear hWW hsz hc0 hc1 hbw est
    go_loopg [5, 7, 8, 25] (len + 1) (fun q v t kk i wr => ∃ n a : Nat, i = .int .i64 (n : Int) ∧ n ≤ len ∧ t = .int .i64 (a : Int) ∧ Hid (a = me.toNat + 1 + n) ∧ q = len + 1 - n ∧
      Hid (wr.ownsRow (w.heap.size + 2) 3 1 v (candL len hl (me.toNat + 1) me n).length ((candL len hl (me.toNat + 1) me n).map encF)) ∧ Hid (Below (w.heap.size + 2) WW wr))
    case atStart => exact ⟨0, _, rfl, by omega, by go_num, rfl, by omega, World.ownsRow_nil _ _ _ _, Below.refl _ _⟩
    case round =>
      obtain ⟨n, a, rfl, hn, rfl, HA, rfl, OWN, BEL⟩ := hrel
      have hbox : wr.cell? ⟨w.heap.size, 0, none⟩ = some (.slice (some ⟨ab, 0, none⟩) len c) := (BEL.out.cell (p := ⟨w.heap.size, 0, none⟩) (by show w.heap.size < w.heap.size + 2; omega)).trans HC1.out
      have ha40 : a ≤ 40 := by have := HA.out; omega
      by_cases hlt : n < len
      · have n1 : (n : Int) < len := by omega
        obtain ⟨kk, hkk⟩ : ∃ kk, kk = a % len := ⟨_, rfl⟩
        have hmod : (a : Int) % (len : Int) = (kk : Int) := by rw [hkk]; rfl
        have KK := hide hkk
        have hkl : kk < len := by rw [hkk]; exact Nat.mod_lt _ hl
        clear hkk
        have a0' : (0 : Int) ≤ a := by omega
        by_cases hne : (kk : Int) = me
        · have hne1 : ((kk : Int) != me) = false := by simp [hne]
          have NE := hide hne
          clear hne
          go_wp2_with fail
          have e1 : candL len hl (me.toNat + 1) me (n + 1) = candL len hl (me.toNat + 1) me n := candL_skip hl HA.out KK.out NE.out
          go_roundg (len + 1 - (n + 1))
          case measure => omega
          case rel => exact ⟨n + 1, a + 1, by go_num, by omega, by go_num, by show a + 1 = _; have := HA.out; omega, rfl, by rw [e1]; exact OWN.out, BEL.out⟩
        · have hne1 : ((kk : Int) != me) = true := by simp [hne]
          have NE := hide hne
          clear hne
          have hsize := BEL.out.size
          rw [HSZ.out] at hsize
          have hll := candL_le len hl (me.toNat + 1) me n
          go_wp2_with (at_builtin; go_must (refine wpList_append_own _ rfl (.tmp 34) (.tmp 36) _ rfl (w.heap.size + 2) 3 i0 _ 1 8 Try.underlying24 hi0 hz0 hz1 hz2 rfl (by omega) _ _ _ rfl (OWN.out.alloc _) ⟨wr.heap.size, 0, none⟩ 1 1 [.int .i64 (kk : Int)] rfl rfl (cell_one_new _ _ _) (by intro u hu; simp only [List.mem_singleton] at hu; subst hu; rfl) (by simp only [maxLen]; omega) (by omega) (by rw [World.size_alloc]; omega) ?_); intro v1 w1 hown1 hgr _; have OWN1 := hide hown1; have GR1 := hide hgr; clear hown1 hgr)
          have e1 : candL len hl (me.toNat + 1) me (n + 1) = candL len hl (me.toNat + 1) me n ++ [⟨kk, hkl⟩] := candL_push hl HA.out KK.out NE.out hkl
          have hb1 : Below (w.heap.size + 2) WW w1 := (BEL.out.alloc (by omega) _).grown GR1.out (by rw [World.size_alloc]; omega) (fun g hg => (OWN.out.lt g hg).1)
          go_roundg (len + 1 - (n + 1))
          case measure => omega
          case rel => exact ⟨n + 1, a + 1, by go_num, by omega, by go_num, by show a + 1 = _; have := HA.out; omega, rfl, by rw [e1, List.map_append, List.length_append]; exact OWN1.out, hb1⟩
      · have n1 : ¬ (n : Int) < len := by omega
        obtain rfl : n = len := by omega
        go_wp2_with fail
        refine (order_tail n hl ab c me (me.toNat + 1) (f1, f2) P w wr _ h20 hab ?_ HF.out ?_ hbox _ (Nat.le_trans (candL_le _ _ _ _ _) h20) OWN.out ?_ ?_).mono ?_
        · exact HP2.out wr (HBW.out.trans (BEL.out.mono (by omega)))
        · exact (BEL.out.cell (p := ⟨w.heap.size + 1, 0, none⟩) (by show w.heap.size + 1 < w.heap.size + 2; omega)).trans HC0.out
        · exact HBW.out.trans (BEL.out.mono (by omega))
        · have := BEL.out.size; rw [HSZ.out] at this; exact this
        · rintro e w' ⟨rfl, hO⟩
          have HO := hide hO
          clear hO
          go_wp2_with fail
          go_ret
          exact HO.out

set_option maxHeartbeats 4000000 in
theorem order_out (len : Nat) [Inhabited (Fin len)] (hl : 0 < len) (ab c : Nat) (me : Int) (P : Nat → Nat × Nat) (w : World)
    (h20 : len ≤ 20) (hab : ab < w.heap.size) (hp : ∀ x, x < len → w.cell? ⟨ab, x, none⟩ = some (.complex .f64 (P x).1 (P x).2)) (hfar : ∀ x, x < len → FarOk 0 0 (P x).1 (P x).2)
    (k0 : me < 0) :
    Calls Try.prog 5 #[.slice (some ⟨ab, 0, none⟩) len c, .int .i64 me] w (Ordered len (0, 0) P (candL len hl (0) me len) w) := by
  obtain ⟨i0, hi0, hz0, hz1, hz2⟩ := info_parts int_info
  have hlen : (0 : Int) < len := by omega
  have HP : ∀ wr : World, Below w.heap.size w wr → ∀ x, x < len → wr.cell? ⟨ab, x, none⟩ = some (.complex .f64 (P x).1 (P x).2) := fun wr hb x hx => (hb.cell (p := ⟨ab, x, none⟩) hab).trans (hp x hx)
  have HP2 := hide HP
  have HF := hide hfar
  clear HP hfar
  have est := fun (W : World) (a : Addr) => run_store Try.prog W a (.complex .f64 0 0) .plain rfl
  have hg : decide ((0 : Int) ≤ me) = false := by simp; omega
  clear hp
  · go_enter Try.func5, Try.ntmps5
    go_wp2_with fail
    obtain ⟨WW, hWW⟩ : ∃ WW : World, WW = W0 w ab len c (0, 0) := ⟨_, rfl⟩
    have hsz : WW.heap.size = w.heap.size + 2 := by rw [hWW]; exact W0_size _ _ _ _ _
    have hbw : Below w.heap.size w WW := by rw [hWW]; exact W0_below _ _ _ _ _
    have hc0 : WW.cell? ⟨w.heap.size + 1, 0, none⟩ = some (.complex .f64 0 0) := by rw [hWW]; exact W0_from _ _ _ _ _
    have hc1 : WW.cell? ⟨w.heap.size, 0, none⟩ = some (.slice (some ⟨ab, 0, none⟩) len c) := by rw [hWW]; exact W0_list _ _ _ _ _
    unfold W0 at hWW
    rw [← hWW]
    have HSZ := hide hsz
    have HC0 := hide hc0
    have HC1 := hide hc1
    have HBW := hide hbw
    clear hWW hsz hc0 hc1 hbw est
    go_loopg [5, 7, 8, 25] (len + 1) (fun q v t kk i wr => ∃ n a : Nat, i = .int .i64 (n : Int) ∧ n ≤ len ∧ t = .int .i64 (a : Int) ∧ Hid (a = 0 + n) ∧ q = len + 1 - n ∧
      Hid (wr.ownsRow (w.heap.size + 2) 3 1 v (candL len hl (0) me n).length ((candL len hl (0) me n).map encF)) ∧ Hid (Below (w.heap.size + 2) WW wr))
    case atStart => exact ⟨0, _, rfl, by omega, rfl, rfl, by omega, World.ownsRow_nil _ _ _ _, Below.refl _ _⟩
    case round =>
      obtain ⟨n, a, rfl, hn, rfl, HA, rfl, OWN, BEL⟩ := hrel
      have hbox : wr.cell? ⟨w.heap.size, 0, none⟩ = some (.slice (some ⟨ab, 0, none⟩) len c) := (BEL.out.cell (p := ⟨w.heap.size, 0, none⟩) (by show w.heap.size < w.heap.size + 2; omega)).trans HC1.out
      have ha40 : a ≤ 40 := by have := HA.out; omega
      by_cases hlt : n < len
      · have n1 : (n : Int) < len := by omega
        obtain ⟨kk, hkk⟩ : ∃ kk, kk = a % len := ⟨_, rfl⟩
        have hmod : (a : Int) % (len : Int) = (kk : Int) := by rw [hkk]; rfl
        have KK := hide hkk
        have hkl : kk < len := by rw [hkk]; exact Nat.mod_lt _ hl
        clear hkk
        have a0' : (0 : Int) ≤ a := by omega
        by_cases hne : (kk : Int) = me
        · have hne1 : ((kk : Int) != me) = false := by simp [hne]
          have NE := hide hne
          clear hne
          go_wp2_with fail
          have e1 : candL len hl (0) me (n + 1) = candL len hl (0) me n := candL_skip hl HA.out KK.out NE.out
          go_roundg (len + 1 - (n + 1))
          case measure => omega
          case rel => exact ⟨n + 1, a + 1, by go_num, by omega, by go_num, by show a + 1 = _; have := HA.out; omega, rfl, by rw [e1]; exact OWN.out, BEL.out⟩
        · have hne1 : ((kk : Int) != me) = true := by simp [hne]
          have NE := hide hne
          clear hne
          have hsize := BEL.out.size
          rw [HSZ.out] at hsize
          have hll := candL_le len hl (0) me n
          go_wp2_with (at_builtin; go_must (refine wpList_append_own _ rfl (.tmp 34) (.tmp 36) _ rfl (w.heap.size + 2) 3 i0 _ 1 8 Try.underlying24 hi0 hz0 hz1 hz2 rfl (by omega) _ _ _ rfl (OWN.out.alloc _) ⟨wr.heap.size, 0, none⟩ 1 1 [.int .i64 (kk : Int)] rfl rfl (cell_one_new _ _ _) (by intro u hu; simp only [List.mem_singleton] at hu; subst hu; rfl) (by simp only [maxLen]; omega) (by omega) (by rw [World.size_alloc]; omega) ?_); intro v1 w1 hown1 hgr _; have OWN1 := hide hown1; have GR1 := hide hgr; clear hown1 hgr)
          have e1 : candL len hl (0) me (n + 1) = candL len hl (0) me n ++ [⟨kk, hkl⟩] := candL_push hl HA.out KK.out NE.out hkl
          have hb1 : Below (w.heap.size + 2) WW w1 := (BEL.out.alloc (by omega) _).grown GR1.out (by rw [World.size_alloc]; omega) (fun g hg => (OWN.out.lt g hg).1)
          go_roundg (len + 1 - (n + 1))
          case measure => omega
          case rel => exact ⟨n + 1, a + 1, by go_num, by omega, by go_num, by show a + 1 = _; have := HA.out; omega, rfl, by rw [e1, List.map_append, List.length_append]; exact OWN1.out, hb1⟩
      · have n1 : ¬ (n : Int) < len := by omega
        obtain rfl : n = len := by omega
        go_wp2_with fail
        refine (order_tail n hl ab c me (0) (0, 0) P w wr _ h20 hab ?_ HF.out ?_ hbox _ (Nat.le_trans (candL_le _ _ _ _ _) h20) OWN.out ?_ ?_).mono ?_
        · exact HP2.out wr (HBW.out.trans (BEL.out.mono (by omega)))
        · exact (BEL.out.cell (p := ⟨w.heap.size + 1, 0, none⟩) (by show w.heap.size + 1 < w.heap.size + 2; omega)).trans HC0.out
        · exact HBW.out.trans (BEL.out.mono (by omega))
        · have := BEL.out.size; rw [HSZ.out] at this; exact this
        · rintro e w' ⟨rfl, hO⟩
          have HO := hide hO
          clear hO
          go_wp2_with fail
          go_ret
          exact HO.out

end Go.Proofs.Yteciaffioiiceab
