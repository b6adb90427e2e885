/-
  Chapter 16: the document's store in memory: a struct of two rows; Value, Known: walked.
-/
import Derived.Test.YtfcaneofkdaicaaP1
import Derived.Test.YtfcaneofkdaicaaX1
namespace Go.Proofs.Ytfcaneofkdaicaa
open Go.RowKit Go.Sort Go.Maps Go.Shelf

def Rp.cells (x : Rp) : List Value := [.int .i64 x.c, .int .u32 x.s, .bool x.f, .string x.v]
theorem rep_len (x : Rp) : x.cells.length = 4 := rfl

/-- A row's cells. -/
theorem row_cells {α : Type} {f : α → List Value} {w : World} {base sz n : Nat} {t : TypeId} {v : Value} {l : List α} (hf : ∀ x, (f x).length = sz) (hl : l.length = n) (h : w.ownsRow base t sz v n (cellsL f l)) :
    ∃ A c, v = .slice A n c ∧ ∀ j x, l[j]? = some x → ∃ g, A = some ⟨g, 0, none⟩ ∧ g < w.heap.size ∧ ∀ i, i < sz → w.cell? ⟨g, j * sz + i, none⟩ = (f x)[i]? := by
  rcases h.2 with ⟨h1, h2⟩ | ⟨g, cap, cur, hv, hb, hh, hnc, hm, hsz, ht⟩
  · refine ⟨none, 0, ?_, fun j x hj => ?_⟩
    · subst h2; exact h1
    · have : l = [] := List.eq_nil_of_length_eq_zero (by omega)
      subst this
      simp at hj
  · have hblk : Blk w g t cur := hh
    refine ⟨_, _, hv, fun j x hj => ⟨g, rfl, hblk.lt, fun i hi => ?_⟩⟩
    have hjn : j < n := by have := (List.getElem?_eq_some_iff.1 hj).1; omega
    have h5 := cellsL_at f hf hj hi
    have hlt : j * sz + i < n * sz := by
      have : (j + 1) * sz ≤ n * sz := Nat.mul_le_mul_right _ hjn
      rw [Nat.succ_mul] at this
      omega
    rw [← h5, ← ht, List.getElem?_take, if_pos hlt, Array.getElem?_toList]
    exact hblk.cell _

/-- The document's store at xb; what was done is acc. -/
structure XR (w : World) (base xb : Nat) (VL VR : Value) (acc : List Cm) : Prop where
  blk : Blk w xb 31 #[VL, VR]
  ol : w.ownsRow base 44 5 VL acc.length (cellsL Cm.cells acc)
  or : w.ownsRow base 41 4 VR acc.length (cellsL Rp.cells (reps acc))
  nl : ∀ g, VL.ownBlock = some g → g ≠ xb
  nr : ∀ g, VR.ownBlock = some g → g ≠ xb
  gx : base ≤ xb

section
variable {w w' : World} {base xb : Nat} {VL VR : Value} {acc : List Cm}
theorem XR.only {S : Nat → Prop} (h : XR w base xb VL VR acc) (hk : Only S w w') (hx : ¬ S xb) (hl : ∀ g, VL.ownBlock = some g → ¬ S g) (hr : ∀ g, VR.ownBlock = some g → ¬ S g) : XR w' base xb VL VR acc :=
  ⟨(hk.block xb h.blk.lt hx).trans h.blk, own_only h.ol hk hl, own_only h.or hk hr, h.nl, h.nr, h.gx⟩
theorem XR.below (h : XR w base xb VL VR acc) (hk : Below w.heap.size w w') : XR w' base xb VL VR acc := h.only (S := fun _ => False) (Only.of_below _ hk) (fun e => e) (fun _ _ e => e) (fun _ _ e => e)
theorem XR.gr (h : XR w base xb VL VR acc) (hk : Gr w w') : XR w' base xb VL VR acc := h.below hk.below
theorem XR.lrow (h : XR w base xb VL VR acc) : ∃ A c, VL = .slice A acc.length c ∧ ∀ j x, acc[j]? = some x → ∃ g, A = some ⟨g, 0, none⟩ ∧ g < w.heap.size ∧
    w.cell? ⟨g, j * 5, none⟩ = some (.int .i64 x.o) ∧ w.cell? ⟨g, j * 5 + 1, none⟩ = some (.int .i64 x.c) ∧ w.cell? ⟨g, j * 5 + 2, none⟩ = some (.int .u32 x.s) ∧ w.cell? ⟨g, j * 5 + 3, none⟩ = some (.string x.k) ∧ w.cell? ⟨g, j * 5 + 4, none⟩ = some (.string x.v) := by
  obtain ⟨A, c, e, h1⟩ := row_cells cmd_len rfl h.ol
  refine ⟨A, c, e, fun j x hj => ?_⟩
  obtain ⟨g, hA, hg, hc⟩ := h1 j x hj
  exact ⟨g, hA, hg, (hc 0 (by omega)).trans rfl, (hc 1 (by omega)).trans rfl, (hc 2 (by omega)).trans rfl, (hc 3 (by omega)).trans rfl, (hc 4 (by omega)).trans rfl⟩
theorem XR.rrow (h : XR w base xb VL VR acc) : ∃ A c, VR = .slice A acc.length c ∧ ∀ j x, (reps acc)[j]? = some x → ∃ g, A = some ⟨g, 0, none⟩ ∧ g < w.heap.size ∧
    w.cell? ⟨g, j * 4, none⟩ = some (.int .i64 x.c) ∧ w.cell? ⟨g, j * 4 + 1, none⟩ = some (.int .u32 x.s) ∧ w.cell? ⟨g, j * 4 + 2, none⟩ = some (.bool x.f) ∧ w.cell? ⟨g, j * 4 + 3, none⟩ = some (.string x.v) := by
  obtain ⟨A, c, e, h1⟩ := row_cells rep_len (reps_len acc) h.or
  refine ⟨A, c, e, fun j x hj => ?_⟩
  obtain ⟨g, hA, hg, hc⟩ := h1 j x hj
  exact ⟨g, hA, hg, (hc 0 (by omega)).trans rfl, (hc 1 (by omega)).trans rfl, (hc 2 (by omega)).trans rfl, (hc 3 (by omega)).trans rfl⟩
end

set_option maxHeartbeats 1000000 in
theorem refcmd_any (o c s : Int) (k v : ByteArray) (w : World) : Calls Try.prog 14 #[.agg #[.int .i64 o, .int .i64 c, .int .u32 s, .string k, .string v]] w fun e w' =>
    e = .returned (.agg #[.int .i64 o, .int .i64 c, .int .u32 s, .string k, .string v]) ∧ Below w.heap.size w w' := by
  go_enter Try.func14, Try.ntmps14
  go_wp2_with fail
  exact bodyPost_ret (v := .agg #[.int .i64 o, .int .i64 c, .int .u32 s, .string k, .string v]) (by simp [results, Try.results14, go_sem]) rfl ⟨rfl, (((Gr.refl w).alloc _).alloc _).below⟩

set_option maxHeartbeats 1000000 in
theorem refrep_any (c s : Int) (f : Bool) (v : ByteArray) (w : World) : Calls Try.prog 21 #[.agg #[.int .i64 c, .int .u32 s, .bool f, .string v]] w fun e w' =>
    e = .returned (.agg #[.int .i64 c, .int .u32 s, .bool f, .string v]) ∧ Below w.heap.size w w' := by
  go_enter Try.func21, Try.ntmps21
  go_wp2_with fail
  exact bodyPost_ret (v := .agg #[.int .i64 c, .int .u32 s, .bool f, .string v]) (by simp [results, Try.results21, go_sem]) rfl ⟨rfl, (((Gr.refl w).alloc _).alloc _).below⟩

/-- A key's value, by the last command that says it. -/
theorem valOf_skip {acc : List Cm} {x : Cm} {k : ByteArray} (h : x.k ≠ k ∨ x.o = 2) : valOf (acc ++ [x]) k = valOf acc k := by
  rw [valOf_snoc]
  unfold stepO
  by_cases hk : x.k = k
  · rcases h with h | h
    · exact absurd hk h
    · rw [if_pos hk, h]; rfl
  · rw [if_neg hk]
theorem valOf_hit {acc : List Cm} {x : Cm} {k : ByteArray} (hk : x.k = k) (ho : x.o ≠ 2) (hx : okC x = true) : (valOf (acc ++ [x]) k).getD ⟨#[]⟩ = x.v ∧ (valOf (acc ++ [x]) k).isSome = decide (x.o = 1) := by
  rw [valOf_snoc]
  unfold stepO
  unfold okC at hx
  have hx := of_decide_eq_true hx
  rw [if_pos hk]
  by_cases h1 : x.o = 1
  · rw [if_pos h1]; simp [h1]
  · have h3 : x.o = 3 := by omega
    have hv : x.v = ⟨#[]⟩ := bytes_nil.2 (by omega)
    rw [if_neg h1, if_pos h3, hv]
    simp [h1]

set_option maxHeartbeats 4000000 in
theorem xvalue_any {w : World} {base xb : Nat} {VL VR : Value} {acc : List Cm} (h : XR w base xb VL VR acc) (hok : AccOk acc) (k : ByteArray) (hlen : acc.length ≤ 1000000) (v : ByteArray) (r : Bool) (hv : (valOf acc k).getD ⟨#[]⟩ = v) (hr : (valOf acc k).isSome = r) :
    Calls Try.prog 16 #[.pointer (some ⟨xb, 0, none⟩), .string k] w fun e w' => e = .returned (.tuple #[.string v, .bool r]) ∧ Below w.heap.size w w' := by
  obtain ⟨A, cL, rfl, hc⟩ := h.lrow
  obtain ⟨n, hn⟩ : ∃ n, n = acc.length := ⟨_, rfl⟩
  have d0 : w.cell? ⟨xb, 0, none⟩ = some (.slice A n cL) := by rw [hn]; exact (h.blk.cell 0).trans rfl
  have HC := hide hc
  have OK := hide hok
  have HN := hide hn
  have hn1 : n ≤ 1000000 := by omega
  have nw : IntKind.i64.wrap ((n : Int) - 1) = (n : Int) - 1 := IntWalk.i64_in _ (by omega)
  have HV := hide hv
  have HR := hide hr
  clear h hc hok hn hlen hv hr
  go_enter Try.func16, Try.ntmps16
  go_wp2_with fail
  go_loopg [6] (n + 1) (fun q u wr => ∃ (i : Nat), u = .int .i64 ((i : Int) - 1) ∧ i ≤ n ∧ q = i + 1 ∧ Hid (valOf acc k = valOf (acc.take i) k) ∧ w = wr)
  case atStart => exact ⟨n, rfl, Nat.le_refl _, rfl, by show _ = _; rw [HN.out, List.take_length], rfl⟩
  case round =>
    obtain ⟨i, rfl, hi, rfl, HI, rfl⟩ := hrel
    cases i with
    | zero =>
      have i1 : ¬ (0 : Int) ≤ ((0 : Nat) : Int) - 1 := by omega
      have hz : valOf acc k = none := by rw [HI.out]; rfl
      have e1 : v = ⟨#[]⟩ := by rw [← HV.out, hz]; rfl
      have e2 : r = false := by rw [← HR.out, hz]; rfl
      subst e1 e2
      clear hz
      go_wp2_with fail
      go_ret2
      exact ⟨rfl, Below.refl _ _⟩
    | succ i =>
      have hlt : i < acc.length := by rw [← HN.out]; omega
      obtain ⟨x, hx⟩ : ∃ x, x = acc[i] := ⟨_, rfl⟩
      have hget : acc[i]? = some x := by rw [hx]; exact List.getElem?_eq_getElem hlt
      have htk : acc.take (i + 1) = acc.take i ++ [x] := by rw [hx]; exact List.take_succ_eq_append_getElem hlt
      have hxok : okC x = true := OK.out.ok x (by rw [hx]; exact List.getElem_mem hlt)
      have hI := HI.out
      rw [htk] at hI
      obtain ⟨g, rfl, hg, e0, _, _, e3, e4⟩ := HC.out i x hget
      have ie : ((i + 1 : Nat) : Int) - 1 = (i : Int) := by omega
      rw [ie]
      have i1 : (0 : Int) ≤ (i : Int) := by omega
      have i2 : (i : Int) < n := by omega
      have SK := hide (valOf_skip (acc := acc.take i) (x := x) (k := k))
      have HT := hide (fun a b => valOf_hit (acc := acc.take i) (x := x) (k := k) a b hxok)
      have HI2 := hide hI
      obtain ⟨o, cc, s, kk, vv⟩ := x
      simp only at e0 e3 e4
      clear hx hget htk hxok hI HI ie
      by_cases hk : kk = k
      · have hkb : (kk.toList == k.toList) = true := by rw [hk]; exact beq_self_eq_true _
        by_cases ho : o = 2
        · have hI := HI2.out
          rw [SK.out (.inr ho)] at hI
          have HI3 := hide hI
          subst ho
          clear hI HT SK HI2 hk
          go_wp2_with fail
          go_roundg (i + 1)
          case measure => omega
          case rel => exact ⟨i, by go_num, by omega, rfl, HI3.out, rfl⟩
        · have h1 := HT.out hk ho
          rw [← HI2.out, HV.out, HR.out] at h1
          obtain ⟨h1, h2⟩ := h1
          subst h1
          have hob : (o == 2) = false := beq_eq_false_iff_ne.2 ho
          have ho1 : (o == 1) = r := by rw [h2, Bool.eq_iff_iff]; simp
          have ho1d : decide (o = 1) = r := h2.symm
          clear HT SK HI2 hk h2 HV HR
          have hmix := mixed
          go_wp2_with fail
          go_quiet (fail)
          go_wp2_with fail
          go_ret2
          exact ⟨rfl, ((Gr.refl w).drewN _).below⟩
      · have hkb : (kk.toList == k.toList) = false := by
          rw [beq_eq_false_iff_ne, Go.Lib.toList_data, Go.Lib.toList_data]
          intro e
          exact hk (ByteArray.ext (Array.toList_inj.1 e))
        have hI := HI2.out
        rw [SK.out (.inl hk)] at hI
        have HI3 := hide hI
        clear hI HT SK HI2 hk
        go_wp2_with fail
        go_roundg (i + 1)
        case measure => omega
        case rel => exact ⟨i, by go_num, by omega, rfl, HI3.out, rfl⟩

end Go.Proofs.Ytfcaneofkdaicaa
