/-
  Chapter 16: Log, in the document: walked.
-/
import Derived.Test.YtfcaneofkdaicaaX3
namespace Go.Proofs.Ytfcaneofkdaicaa
open Go.RowKit Go.Sort Go.Maps Go.Shelf

theorem xcmd_info : (Try.prog.info? 44).map (fun i => (i.zero, i.size, i.bytes)) = some (some Cm.zero.val, 5, 56) := by kernel_rfl
theorem xrep_info : (Try.prog.info? 41).map (fun i => (i.zero, i.size, i.bytes)) = some (some Rp.zero.val, 4, 32) := by kernel_rfl
theorem rep_one (x : Rp) : ∀ v ∈ x.cells, v.oneCell' = true := by intro v hv; simp [Rp.cells] at hv; rcases hv with rfl | rfl | rfl | rfl <;> rfl
theorem own_gr {w w' : World} {base size n : Nat} {e : TypeId} {v : Value} {xs : List Value} (h : w.ownsRow base e size v n xs) (hk : Gr w w') : w'.ownsRow base e size v n xs := own_only (S := fun _ => False) h (Only.of_gr _ hk) (fun _ _ e => e)
theorem own_below {w w' : World} {base size n : Nat} {e : TypeId} {v : Value} {xs : List Value} (h : w.ownsRow base e size v n xs) (hk : Below w.heap.size w w') : w'.ownsRow base e size v n xs := own_only (S := fun _ => False) h (Only.of_below _ hk) (fun _ _ e => e)
theorem own_ge {w : World} {base size n : Nat} {e : TypeId} {v : Value} {xs : List Value} (h : w.ownsRow base e size v n xs) : ∀ g, v.ownBlock = some g → base ≤ g ∧ g < w.heap.size := by
  intro g hg
  rcases h.2 with ⟨rfl, _⟩ | ⟨g', cap, cur, rfl, h1, h2, _⟩
  · simp [Value.ownBlock] at hg
  · have : g' = g := by simpa [Value.ownBlock] using hg
    subst this
    exact ⟨h1, (Array.getElem?_eq_some_iff.1 h2).1⟩
theorem grown_below {w w' : World} {base : Nat} {row : Option Nat} (h : w.grownBy w' row) (hr : ∀ g, row = some g → base ≤ g) (hb : base ≤ w.heap.size) : Below base w w' :=
  (Only.of_grown (S := fun b => base ≤ b) h fun g hg => .inl (hr g hg)).below (fun _ h => h) hb

theorem log_succ {acc : List Cm} {i : Nat} {x : Cm} (hx : acc[i]? = some x) (k : ByteArray) : logOf (acc.take (i + 1)) k = if x.k = k then logOf (acc.take i) k ++ [x] else logOf (acc.take i) k := by
  obtain ⟨hi, e⟩ := List.getElem?_eq_some_iff.1 hx
  rw [List.take_succ_eq_append_getElem hi, e, logOf_snoc]

theorem Reads.new (w : World) (cs : Array Value) (t : TypeId) (n size : Nat) (h : cs.size = n * size) : Reads (w.alloc (.cells cs t)) (w.heap.size + 1) size (some ⟨w.heap.size, 0, none⟩) n cs.toList := by
  refine ⟨by simpa using h, fun _ => ⟨_, rfl, by simp, fun j u hu => ?_⟩⟩
  have : (⟨w.heap.size, 0, none⟩ : Addr).add j = ⟨w.heap.size, j, none⟩ := by unfold Addr.add; split <;> simp_all
  rw [this, (Blk.new w t cs).cell j]
  simpa using hu
theorem Reads.newAt {w : World} {cs : Array Value} {t : TypeId} {g : Nat} (hg : g = w.heap.size) (n size : Nat) (h : cs.size = n * size) {l : List Value} (hl : cs.toList = l) :
    Reads (w.alloc (.cells cs t)) (g + 1) size (some ⟨g, 0, none⟩) n l := by
  subst hg hl
  exact Reads.new w cs t n size h

def XLogged (w : World) (l : List Cm) (e : Ending) (w' : World) : Prop := ∃ v, e = .returned v ∧ w'.ownsRow w.heap.size 44 5 v l.length (cellsL Cm.cells l) ∧ Below w.heap.size w w'

set_option maxRecDepth 100000 in
set_option maxHeartbeats 4000000 in
theorem xlog_any {w : World} {base xb : Nat} {VL VR : Value} {acc : List Cm} (h : XR w base xb VL VR acc) (k : ByteArray) (hlen : acc.length ≤ 1000000) :
    Calls Try.prog 20 #[.pointer (some ⟨xb, 0, none⟩), .string k] w (XLogged w (logOf acc k)) := by
  obtain ⟨A, cL, rfl, _⟩ := h.lrow
  obtain ⟨n, hn⟩ : ∃ n, n = acc.length := ⟨_, rfl⟩
  have ROW : Hid (∀ W, Below w.heap.size w W → W.cell? ⟨xb, 0, none⟩ = some (.slice A n cL) ∧ ∀ j x, acc[j]? = some x → ∃ g, A = some ⟨g, 0, none⟩ ∧ g < w.heap.size ∧
      W.cell? ⟨g, j * 5, none⟩ = some (.int .i64 x.o) ∧ W.cell? ⟨g, j * 5 + 1, none⟩ = some (.int .i64 x.c) ∧ W.cell? ⟨g, j * 5 + 2, none⟩ = some (.int .u32 x.s) ∧ W.cell? ⟨g, j * 5 + 3, none⟩ = some (.string x.k) ∧ W.cell? ⟨g, j * 5 + 4, none⟩ = some (.string x.v)) := by
    intro W hW
    have hx := h.below hW
    obtain ⟨A', c', e, hr⟩ := h.lrow
    injection e with e1 e2 e3
    subst e1 e3
    refine ⟨by rw [hn]; exact (hx.blk.cell 0).trans rfl, fun j x hj => ?_⟩
    obtain ⟨g, hA, hg, c0, c1, c2, c3, c4⟩ := hr j x hj
    refine ⟨g, hA, hg, ?_, ?_, ?_, ?_, ?_⟩
    · exact (hW.cell (p := ⟨g, j * 5, none⟩) hg).trans c0
    · exact (hW.cell (p := ⟨g, j * 5 + 1, none⟩) hg).trans c1
    · exact (hW.cell (p := ⟨g, j * 5 + 2, none⟩) hg).trans c2
    · exact (hW.cell (p := ⟨g, j * 5 + 3, none⟩) hg).trans c3
    · exact (hW.cell (p := ⟨g, j * 5 + 4, none⟩) hg).trans c4
  have HN := hide hn
  have hn1 : n ≤ 1000000 := by omega
  obtain ⟨i0, hi0, hz0, hz1, hz2⟩ := info_parts xcmd_info
  clear h hn hlen
  go_enter Try.func20, Try.ntmps20
  go_wp2_with fail
  go_loopg [5, 6] (n + 1) (fun q u5 u wr => ∃ (i : Nat) (A2 : Option Addr) (m c2 : Nat), u = .int .i64 (i : Int) ∧ u5 = .slice A2 m c2 ∧ i ≤ n ∧ q = n + 1 - i ∧ Hid (m = (logOf (acc.take i) k).length ∧ m ≤ i) ∧ Hid (wr.ownsRow w.heap.size 44 5 (.slice A2 m c2) m (cellsL Cm.cells (logOf (acc.take i) k))) ∧ Hid (Below w.heap.size w wr))
  case atStart => exact ⟨0, none, 0, 0, rfl, rfl, Nat.zero_le _, rfl, ⟨rfl, Nat.le_refl _⟩, World.ownsRow_nil _ _ _ _, Below.refl _ _⟩
  case round =>
    obtain ⟨i, A2, m, c2, rfl, rfl, hi, rfl, HM, HO, HB⟩ := hrel
    by_cases hlt : i < n
    · have hget : acc[i]? = some (acc[i]'(by rw [← HN.out]; exact hlt)) := List.getElem?_eq_getElem _
      obtain ⟨x, hx⟩ : ∃ x, x = (acc[i]'(by rw [← HN.out]; exact hlt)) := ⟨_, rfl⟩
      rw [← hx] at hget
      obtain ⟨d0, hr⟩ := ROW.out _ HB.out
      obtain ⟨g, rfl, hg, e0, e1, e2, e3, e4⟩ := hr i x hget
      have hs := log_succ hget k
      have i1 : (i : Int) < n := by omega
      have i0' : (0 : Int) ≤ i := by omega
      have hsz := HB.out.size
      have hxl := World.block_lt_of_cell? wr _ d0
      obtain ⟨o, cc, s, kk, vv⟩ := x
      simp only at e0 e1 e2 e3 e4
      by_cases hk : kk = k
      · have hkb : (kk.toList == k.toList) = true := by rw [hk]; exact beq_self_eq_true _
        rw [if_pos hk] at hs
        have hk' := hk.symm
        clear hk
        subst hk'
        have HS := hide hs
        have OW := hide (own_gr HO.out ((Gr.refl wr).alloc (.cells #[.int .i64 o, .int .i64 cc, .int .u32 s, .string k, .string vv] 44)))
        have hm1 : m ≤ 1000000 := by have := HM.out.2; omega
        have hmx : m + 1 ≤ maxLen := by simp only [maxLen]; omega
        have hs64 : (m + 1) * 56 ≤ 140737488355328 := by omega
        have PSI := hide (show w.heap.size ≤ (wr.alloc (.cells #[.int .i64 o, .int .i64 cc, .int .u32 s, .string k, .string vv] 44)).heap.size by simp; omega)
        have RN : Hid (Reads (wr.alloc (.cells #[.int .i64 o, .int .i64 cc, .int .u32 s, .string k, .string vv] 44)) (wr.heap.size + 1) 5 (some ⟨wr.heap.size, 0, none⟩) 1 (Cm.cells ⟨o, cc, s, k, vv⟩)) := Reads.newAt rfl 1 5 rfl rfl
        have BA := hide (HB.out.trans (Gr.below ((Gr.refl wr).alloc (.cells #[.int .i64 o, .int .i64 cc, .int .u32 s, .string k, .string vv] 44)) |>.mono hsz))
        clear hs hx hget hr
        go_wp2_with (at_builtin; refine wpList_append_any _ rfl (.tmp 26) (.tmp 34) 28 rfl w.heap.size 44 i0 Cm.zero.val 5 56 Try.underlying28 hi0 hz0 hz1 hz2 rfl (by omega) _ m _ rfl OW.out (wr.heap.size + 1) (some ⟨wr.heap.size, 0, none⟩) 1 1 (Cm.cells ⟨o, cc, s, k, vv⟩) rfl RN.out (cmd_one _) hmx hs64 PSI.out ?_; intro v1 w1 hown0 hgr hv0; obtain ⟨A3, c3, rfl, _⟩ := own_slice hown0; have O1 := hide hown0; have G1 := hide hgr; clear hown0 hgr hv0)
        go_wp2_with fail
        go_roundg (n + 1 - (i + 1))
        case measure => omega
        case rel =>
          refine ⟨i + 1, A3, m + 1, c3, by go_num, rfl, by omega, rfl, ?_, ?_, ?_⟩
          · show _ ∧ _
            rw [HS.out, List.length_append, ← HM.out.1]
            exact ⟨rfl, by have := HM.out.2; omega⟩
          · show World.ownsRow _ _ _ _ _ _ _
            rw [HS.out, cellsL_snoc]
            exact O1.out
          · exact BA.out.trans (grown_below G1.out (fun g hg => (own_ge OW.out g hg).1) PSI.out)
      · have hkb : (kk.toList == k.toList) = false := by
          rw [beq_eq_false_iff_ne, Go.Lib.toList_data, Go.Lib.toList_data]
          intro e
          exact hk (ByteArray.ext (Array.toList_inj.1 e))
        rw [if_neg hk] at hs
        have HS := hide hs
        clear hs hx hget hr
        go_wp2_with fail
        go_roundg (n + 1 - (i + 1))
        case measure => omega
        case rel =>
          refine ⟨i + 1, A2, m, c2, by go_num, rfl, by omega, rfl, ?_, ?_, HB.out⟩
          · show _ ∧ _
            rw [HS.out]
            exact ⟨HM.out.1, by have := HM.out.2; omega⟩
          · show World.ownsRow _ _ _ _ _ _ _
            rw [HS.out]
            exact HO.out
    · obtain rfl : i = n := by omega
      have i1 : ¬ (i : Int) < i := by omega
      obtain ⟨d0, _⟩ := ROW.out _ HB.out
      go_wp2_with fail
      go_ret
      refine ⟨_, rfl, ?_, HB.out⟩
      have h1 := HO.out
      have e := HM.out.1
      have ht : acc.take i = acc := by rw [HN.out, List.take_length]
      rw [ht] at h1 e
      rw [← e]
      exact h1

end Go.Proofs.Ytfcaneofkdaicaa
