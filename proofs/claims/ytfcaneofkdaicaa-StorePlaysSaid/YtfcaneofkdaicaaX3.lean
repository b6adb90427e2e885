/-
  Chapter 16: Known, in the document: walked.
-/
import Derived.Test.YtfcaneofkdaicaaX2
namespace Go.Proofs.Ytfcaneofkdaicaa
open Go.RowKit Go.Sort Go.Maps Go.Shelf

def knownIn (l : List Rp) (c s : Int) : Option Rp := l.find? fun r => r.asks c s
theorem known_step {l : List Rp} {i : Nat} {x : Rp} {c s : Int} (hx : l[i]? = some x) : knownIn (l.drop i) c s = if x.asks c s then some x else knownIn (l.drop (i + 1)) c s := by
  obtain ⟨hi, e⟩ := List.getElem?_eq_some_iff.1 hx
  unfold knownIn
  rw [List.drop_eq_getElem_cons hi, List.find?_cons, e]
  cases x.asks c s <;> rfl

set_option maxHeartbeats 4000000 in
theorem xknown_any {w : World} {base xb : Nat} {VL VR : Value} {acc : List Cm} (h : XR w base xb VL VR acc) (c s : Int) (hlen : acc.length ≤ 1000000) (y : Rp) (r : Int) (hy : (knownOf acc c s).getD Rp.zero = y) (hr : (if (knownOf acc c s).isSome then 0 else 5) = r) :
    Calls Try.prog 18 #[.pointer (some ⟨xb, 0, none⟩), .int .i64 c, .int .u32 s] w fun e w' => e = .returned (.tuple #[.agg #[.int .i64 y.c, .int .u32 y.s, .bool y.f, .string y.v], .int .i64 r]) ∧ Below w.heap.size w w' := by
  obtain ⟨A, cR, rfl, hc⟩ := h.rrow
  obtain ⟨n, hn⟩ : ∃ n, n = acc.length := ⟨_, rfl⟩
  have hnl : (reps acc).length = n := by rw [reps_len, hn]
  have d0 : w.cell? ⟨xb, 1, none⟩ = some (.slice A n cR) := by rw [hn]; exact (h.blk.cell 1).trans rfl
  obtain ⟨l, hl⟩ : ∃ l, l = reps acc := ⟨_, rfl⟩
  have hk : knownOf acc c s = knownIn l c s := by rw [hl]; rfl
  rw [hk] at hy hr
  rw [← hl] at hc hnl
  have hxb := h.blk.lt
  have f0 := h.blk.frozen 1
  have HC := hide hc
  have HN := hide hnl
  have hn1 : n ≤ 1000000 := by omega
  have HY := hide hy
  have HR := hide hr
  have B0 := hide ((Gr.refl w).alloc (.cells #[.int .i64 0, .int .u32 0, .bool false, .string ⟨#[]⟩] 41)).below
  clear h hc hn hlen hy hr hk hl hnl
  go_enter Try.func18, Try.ntmps18
  go_wp2_with fail
  go_loopg [8] (n + 1) (fun q u wr => ∃ (i : Nat), u = .int .i64 (i : Int) ∧ i ≤ n ∧ q = n + 1 - i ∧ Hid (knownIn l c s = knownIn (l.drop i) c s) ∧ wr = w.alloc (.cells #[.int .i64 0, .int .u32 0, .bool false, .string ⟨#[]⟩] 41))
  case atStart => exact ⟨0, rfl, Nat.zero_le _, rfl, rfl, rfl⟩
  case round =>
    obtain ⟨i, rfl, hi, rfl, HI, rfl⟩ := hrel
    by_cases hlt : i < n
    · have hget : l[i]? = some (l[i]'(by rw [HN.out]; exact hlt)) := List.getElem?_eq_getElem _
      obtain ⟨x, hx⟩ : ∃ x, x = (l[i]'(by rw [HN.out]; exact hlt)) := ⟨_, rfl⟩
      rw [← hx] at hget
      obtain ⟨g, rfl, hg, e0, e1, e2, e3⟩ := HC.out i x hget
      have hs := HI.out
      rw [known_step hget] at hs
      have i1 : (i : Int) < n := by omega
      have i0 : (0 : Int) ≤ i := by omega
      obtain ⟨xc, xs, xf, xv⟩ := x
      simp only at e0 e1 e2 e3
      by_cases hc1 : xc = c
      · by_cases hs1 : xs = s
        · have ha : Rp.asks ⟨xc, xs, xf, xv⟩ c s = true := decide_eq_true ⟨hc1, hs1⟩
          rw [if_pos ha] at hs
          have y1 := HY.out
          have r1 := HR.out
          rw [hs] at y1 r1
          simp only [Option.getD_some, Option.isSome_some, if_true] at y1 r1
          subst y1 r1
          clear hs ha hx hget HI HY HR
          have c1 : (xc == c) = true := by rw [hc1]; exact beq_self_eq_true _
          have s1 : (xs == s) = true := by rw [hs1]; exact beq_self_eq_true _
          subst hc1 hs1
          go_wp2_with fail
          exact bodyPost_ret (v := .tuple #[.agg #[.int .i64 xc, .int .u32 xs, .bool xf, .string xv], .int .i64 0]) (by simp [results, Try.results18, go_sem]) rfl ⟨rfl, ((Gr.refl w).alloc _).below⟩
        · have ha : Rp.asks ⟨xc, xs, xf, xv⟩ c s = false := decide_eq_false fun e => hs1 e.2
          rw [if_neg (by rw [ha]; simp)] at hs
          have HS := hide hs
          have s1 : (xs == s) = false := beq_eq_false_iff_ne.2 hs1
          clear hs ha hx hget HI
          subst hc1
          go_wp2_with fail
          go_roundg (n + 1 - (i + 1))
          case measure => omega
          case rel => exact ⟨i + 1, by go_num, by omega, rfl, HS.out, rfl⟩
      · have ha : Rp.asks ⟨xc, xs, xf, xv⟩ c s = false := decide_eq_false fun e => hc1 e.1
        rw [if_neg (by rw [ha]; simp)] at hs
        have HS := hide hs
        have c1 : (xc == c) = false := beq_eq_false_iff_ne.2 hc1
        clear hs ha hx hget HI
        go_wp2_with fail
        go_roundg (n + 1 - (i + 1))
        case measure => omega
        case rel => exact ⟨i + 1, by go_num, by omega, rfl, HS.out, rfl⟩
    · obtain rfl : i = n := by omega
      have i1 : ¬ (i : Int) < i := by omega
      have hz : knownIn l c s = none := by rw [HI.out, List.drop_of_length_le (by rw [HN.out]; exact Nat.le_refl _)]; rfl
      have y1 := HY.out
      have r1 := HR.out
      rw [hz] at y1 r1
      simp only [Option.getD_none, Option.isSome_none, Bool.false_eq_true, if_false] at y1 r1
      unfold Rp.zero at y1
      subst y1 r1
      clear hz HI HY HR
      go_wp2_with fail
      exact bodyPost_ret (v := .tuple #[.agg #[.int .i64 0, .int .u32 0, .bool false, .string ⟨#[]⟩], .int .i64 5]) (by simp [results, Try.results18, go_sem]) rfl ⟨rfl, ((Gr.refl w).alloc _).below⟩

end Go.Proofs.Ytfcaneofkdaicaa
