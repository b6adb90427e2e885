/-
  Chapter 16: a command by its parts, at any parts; the wishes that come in.
-/
import Derived.Test.YtfcaneofkdaicaaW13
import Derived.Test.YtfcaneofkdaicaaW15
import Derived.Test.YtfcaneofkdaicaaR2
import Derived.IntWalk
namespace Go.Proofs.Ytfcaneofkdaicaa
open Go.RowKit Go.Sort Go.Maps Go.Shelf

theorem wish_any (o c s : Int) (k v : ByteArray) (w : World) (hs : FitsU s) (y : Cm) (hy : wishC o c s v = y) :
    Calls Try.prog 11 #[.agg #[.int .i64 o, .int .i64 c, .int .u32 s, .string k, .string v, .bool true]] w fun e w' => e = .returned (.agg #[.int .i64 y.o, .int .i64 y.c, .int .u32 y.s, .string y.k, .string y.v]) ∧ Below w.heap.size w w' := by
  obtain ⟨hs0, hs1⟩ := hs
  have q1 : (IntKind.u64.wrap o).tmod 5 = o % 18446744073709551616 % 5 := by rw [IntKind.wrap_u64, Int.tmod_eq_emod_of_nonneg (by omega)]
  have q3 : (IntKind.u64.wrap c).tmod 4 = c % 18446744073709551616 % 4 := by rw [IntKind.wrap_u64, Int.tmod_eq_emod_of_nonneg (by omega)]
  have q6 : s.tmod 5 = s % 5 := Int.tmod_eq_emod_of_nonneg hs0
  have q8 : (s / 256).tmod 3 = s / 256 % 3 := Int.tmod_eq_emod_of_nonneg (by omega)
  obtain ⟨p, hp⟩ : ∃ p, p = o % 18446744073709551616 % 5 := ⟨_, rfl⟩
  obtain ⟨cc, hcc⟩ : ∃ cc, cc = c % 18446744073709551616 % 4 := ⟨_, rfl⟩
  obtain ⟨s5, hs5⟩ : ∃ s5, s5 = s % 5 := ⟨_, rfl⟩
  obtain ⟨s3, hs3⟩ : ∃ s3, s3 = s / 256 % 3 := ⟨_, rfl⟩
  have p0 : 0 ≤ p ∧ p ≤ 4 := by omega
  have cc0 : 0 ≤ cc ∧ cc ≤ 3 := by omega
  have s50 : 0 ≤ s5 ∧ s5 ≤ 4 := by omega
  have s30 : 0 ≤ s3 ∧ s3 ≤ 2 := by omega
  unfold wishC keyB at hy
  rw [← hp, ← hcc, ← hs5, ← hs3] at hy
  rw [← hp] at q1
  rw [← hcc] at q3
  rw [← hs5] at q6
  rw [← hs3] at q8
  clear hp hcc hs5 hs3
  have q2 : IntKind.i64.wrap p = p := IntWalk.i64_in _ (by omega)
  have q4 : IntKind.i64.wrap cc = cc := IntWalk.i64_in _ (by omega)
  have q5 : IntKind.i64.wrap (1 + cc) = 1 + cc := IntWalk.i64_in _ (by omega)
  have q7 : IntKind.u32.wrap (1 + s5) = 1 + s5 := by rw [IntKind.wrap_u32]; omega
  have q9 : IntKind.u8.wrap s3 = s3 := IntWalk.u8_in _ (by omega)
  have q10 : IntKind.u8.wrap (97 + s3) = 97 + s3 := IntWalk.u8_in _ (by omega)
  have hcase : p = 0 ∨ p = 1 ∨ p = 2 ∨ p = 3 ∨ p = 4 := by omega
  have hy' : ∀ V, v.extract 0 (min v.size 8) = V → (p = 0 ∧ y = Cm.zero) ∨ (p = 1 ∧ y = ⟨1, 1 + cc, 1 + s5, ⟨#[UInt8.ofNat (97 + s3).toNat]⟩, V⟩) ∨ (p = 2 ∧ y = ⟨2, 1 + cc, 1 + s5, ⟨#[UInt8.ofNat (97 + s3).toNat]⟩, ⟨#[]⟩⟩) ∨ (p = 3 ∧ y = ⟨3, 1 + cc, 1 + s5, ⟨#[UInt8.ofNat (97 + s3).toNat]⟩, ⟨#[]⟩⟩) ∨ (p = 4 ∧ y = ⟨1, 1 + cc, 1 + s5, ⟨#[UInt8.ofNat (97 + s3).toNat]⟩, ⟨#[]⟩⟩) := by
    intro V hV
    rw [hV] at hy
    rcases hcase with rfl | rfl | rfl | rfl | rfl
    · exact .inl ⟨rfl, by rw [← hy]; rfl⟩
    · exact .inr (.inl ⟨rfl, by rw [← hy]; rfl⟩)
    · exact .inr (.inr (.inl ⟨rfl, by rw [← hy]; rfl⟩))
    · exact .inr (.inr (.inr (.inl ⟨rfl, by rw [← hy]; rfl⟩)))
    · exact .inr (.inr (.inr (.inr ⟨rfl, by rw [← hy]; rfl⟩)))
  exact wish_reg o c s k v w p cc s5 s3 _ y q1 q2 q3 q4 q5 q6 q7 q8 q9 q10 s30 rfl (hy' _ rfl)

def isKey (k : ByteArray) : Prop := k = ⟨#[97]⟩ ∨ k = ⟨#[98]⟩ ∨ k = ⟨#[99]⟩
def few (x : Cm) : Prop := isKey x.k ∧ x.c ≤ 4
/-- What a wish comes to: no command, or one that may be, of a key of three. -/
theorem wish_ok (o c s : Int) (v : ByteArray) (hs : 0 ≤ s) : wishC o c s v = Cm.zero ∨ (okC (wishC o c s v) = true ∧ ¬ (wishC o c s v).o = 0 ∧ few (wishC o c s v) ∧ (wishC o c s v).Fit) := by
  have hk : isKey (keyB s) := by
    unfold isKey keyB
    have : s / 256 % 3 = 0 ∨ s / 256 % 3 = 1 ∨ s / 256 % 3 = 2 := by omega
    rcases this with h | h | h
    · left; rw [h]; rfl
    · right; left; rw [h]; rfl
    · right; right; rw [h]; rfl
  have hks : (keyB s).size = 1 := rfl
  have hx : (v.extract 0 (min v.size 8)).size ≤ 8 := by rw [ByteArray.size_extract]; omega
  have hz : (⟨#[]⟩ : ByteArray).size = 0 := rfl
  have gen : ∀ (p : Int) (V : ByteArray), 1 ≤ p ∧ p ≤ 3 → V.size ≤ 8 → (p = 1 ∨ V.size = 0) → okC ⟨p, 1 + c % 18446744073709551616 % 4, 1 + s % 5, keyB s, V⟩ = true ∧ ¬ p = 0 ∧ few ⟨p, 1 + c % 18446744073709551616 % 4, 1 + s % 5, keyB s, V⟩ ∧ Cm.Fit ⟨p, 1 + c % 18446744073709551616 % 4, 1 + s % 5, keyB s, V⟩ := by
    intro p V hp hV h1
    refine ⟨decide_eq_true ⟨hp, ⟨?_, ?_⟩, ?_, ⟨?_, ?_⟩, ?_, h1⟩, by omega, ⟨hk, by show 1 + c % 18446744073709551616 % 4 ≤ 4; omega⟩, ⟨?_, ?_, ?_, ?_, ?_⟩⟩
    · show 1 ≤ 1 + c % 18446744073709551616 % 4; omega
    · show 1 + c % 18446744073709551616 % 4 ≤ 64; omega
    · show 1 ≤ 1 + s % 5; omega
    · show (keyB s).size ≠ 0; omega
    · show (keyB s).size ≤ 16; omega
    · show V.size ≤ 32; omega
    · show Fits p; unfold Fits; omega
    · show Fits (1 + c % 18446744073709551616 % 4); unfold Fits; omega
    · show FitsU (1 + s % 5); unfold FitsU; omega
    · show (keyB s).size ≤ _; omega
    · show V.size ≤ _; omega
  unfold wishC
  by_cases h0 : o % 18446744073709551616 % 5 = 0
  · left; rw [if_pos h0]
  · right
    rw [if_neg h0]
    by_cases h1 : o % 18446744073709551616 % 5 = 1
    · rw [if_pos h1]; exact gen 1 _ (by omega) hx (.inl rfl)
    · rw [if_neg h1]
      by_cases h4 : o % 18446744073709551616 % 5 = 4
      · rw [if_pos h4]; exact gen 1 _ (by omega) (by rw [hz]; omega) (.inl rfl)
      · rw [if_neg h4]; exact gen _ _ (by omega) (by rw [hz]; omega) (.inr hz)

theorem find_asks {l : List Rp} {c s : Int} {r : Rp} (h : l.find? (fun r => r.asks c s) = some r) : r.c = c ∧ r.s = s := by
  have := List.find?_some h
  unfold Rp.asks at this
  exact of_decide_eq_true this
/-- What is known of a command behind Apply. -/
theorem known_after {acc : List Cm} {y : Cm} (hy : okC y = true) : ∃ f v, knownOf (applyC acc y) y.c y.s = some ⟨y.c, y.s, f, v⟩ ∧ (newC acc y = true → told acc y = ⟨y.c, y.s, f, v⟩) := by
  cases hn : newC acc y with
  | true =>
    refine ⟨(valOf acc y.k).isSome, (valOf acc y.k).getD ⟨#[]⟩, ?_, fun _ => ?_⟩
    · unfold applyC
      rw [hn, if_pos rfl]
      unfold knownOf
      rw [reps_snoc, List.find?_append]
      have : (reps acc).find? (fun r => r.asks y.c y.s) = none := by
        have h1 := known_some acc y.c y.s
        unfold newC at hn
        rw [Bool.and_eq_true, Bool.not_eq_true'] at hn
        rw [hn.2] at h1
        unfold knownOf at h1
        cases h : (reps acc).find? (fun r => r.asks y.c y.s) with
        | none => rfl
        | some z => rw [h] at h1; cases h1
      rw [this]
      simp [rep, Rp.asks]
    · unfold told
      rw [hn, if_pos rfl]
      rfl
  | false =>
    have h1 := known_some (applyC acc y) y.c y.s
    rw [applyC_asks acc y hy] at h1
    cases hk : knownOf (applyC acc y) y.c y.s with
    | none => rw [hk] at h1; cases h1
    | some z =>
      obtain ⟨e1, e2⟩ := find_asks hk
      refine ⟨z.f, z.v, ?_, fun h => by cases h⟩
      rw [← e1, ← e2]
theorem again_not {acc : List Cm} {y : Cm} (hy : okC y = true) : told (applyC acc y) y = Rp.zero ∧ newC (applyC acc y) y = false ∧ applyC (applyC acc y) y = applyC acc y := by
  have ha := applyC_asks acc y hy
  have hn : newC (applyC acc y) y = false := by unfold newC; rw [ha]; simp
  refine ⟨?_, hn, applyC_again _ _ ha⟩
  unfold told
  rw [hn]
  rfl
theorem applyC_len (acc : List Cm) (y : Cm) : (applyC acc y).length ≤ acc.length + 1 := by
  unfold applyC
  split <;> simp

/-- Each wish's cells, in their bounds. -/
def Wishes (w : World) (A : Option Addr) (len : Nat) : Prop :=
  ∀ i, i < len → ∃ ab ao, A = some ⟨ab, ao, none⟩ ∧ ab < w.heap.size ∧ ∃ (o c s : Int) (k v : ByteArray) (own : Bool),
    w.cell? ⟨ab, ao + i * 6, none⟩ = some (.int .i64 o) ∧ w.cell? ⟨ab, ao + i * 6 + 1, none⟩ = some (.int .i64 c) ∧ w.cell? ⟨ab, ao + i * 6 + 2, none⟩ = some (.int .u32 s) ∧
    w.cell? ⟨ab, ao + i * 6 + 3, none⟩ = some (.string k) ∧ w.cell? ⟨ab, ao + i * 6 + 4, none⟩ = some (.string v) ∧ w.cell? ⟨ab, ao + i * 6 + 5, none⟩ = some (.bool own) ∧ Cm.Fit ⟨o, c, s, k, v⟩

set_option maxRecDepth 100000 in
theorem neq_rep (x y : Rp) (w : World) : (binOp .neq 38 x.val y.val).run Try.prog w = .ok (.bool (!(x.c == y.c && (x.s == y.s && (x.f == y.f && x.v.toList == y.v.toList))))) w := by
  have h := eq_rep x y w
  unfold Rp.val at h ⊢
  rw [run_eql_struct] at h
  rw [run_neq_struct]
  cases hh : (Op.equalIn 10000 38 (.agg #[.int .i64 x.c, .int .u32 x.s, .bool x.f, .string x.v]) (.agg #[.int .i64 y.c, .int .u32 y.s, .bool y.f, .string y.v])).run Try.prog w with
  | ok b w' =>
    rw [hh] at h
    simp only [Result.andThen_ok] at h ⊢
    injection h with h1 h2
    injection h1 with h1
    rw [h1, h2]
  | halt z w' =>
    rw [hh] at h
    cases h

theorem new_keep (w0 w : World) (hw : Below w0.heap.size w0 w) (ks : List Kb) (hk : ∀ k ∈ ks, Blk w k.1 k.2.1 k.2.2 ∧ w0.heap.size ≤ k.1) : Calls Try.prog 10 #[] w fun e w' =>
    ∃ F B bv bl bd, e = .returned (.pointer (some ⟨B, 0, none⟩)) ∧ SK w0 w' F B bv bl bd [] ks :=
  (new_any w0 w hw).mono fun e w' ⟨F, B, bv, bl, bd, he, hs, hg, hF, hB⟩ => ⟨F, B, bv, bl, bd, he, hs, fun k hm => by
    obtain ⟨h1, h2⟩ := hk k hm
    have hlt := h1.lt
    exact ⟨h1.gr hg, fun e => by have := hF _ e; omega, h2, by omega⟩⟩

/-- A wish is applied: what was done has grown by it, or stands. -/
def Grew (w0 : World) (B bv bl bd : Nat) (ks : List Kb) (i : Nat) (e : Ending) (w' : World) : Prop :=
  (∃ y r, e = .returned (.tuple #[y, r])) ∧ ∃ F acc, acc.length ≤ i + 1 ∧ (∀ x ∈ acc, few x) ∧ SK w0 w' F B bv bl bd acc ks
theorem apply_wish {w0 w : World} {F : List Nat} {B bv bl bd : Nat} {acc : List Cm} {ks : List Kb} (h : SK w0 w F B bv bl bd acc ks) (i : Nat) (hi : i ≤ 100) (hl : acc.length ≤ i ∧ ∀ x ∈ acc, few x) (y : Cm)
    (hy : y = Cm.zero ∨ (okC y = true ∧ ¬ y.o = 0 ∧ few y ∧ y.Fit)) :
    Calls Try.prog 12 #[.pointer (some ⟨B, 0, none⟩), .agg #[.int .i64 y.o, .int .i64 y.c, .int .u32 y.s, .string y.k, .string y.v]] w (Grew w0 B bv bl bd ks i) := by
  have hf : y.Fit := by
    rcases hy with rfl | hy
    · refine ⟨?_, ?_, ?_, ?_, ?_⟩ <;> simp [Cm.zero, Fits, FitsU, ByteArray.size]
    · exact hy.2.2.2
  refine (apply_any h.ss y hf (by omega)).mono fun e w' ⟨he, F', hs, hk, hF⟩ => ⟨⟨_, _, he⟩, F', applyC acc y, ?_, ?_, h.applied hs hk hF⟩
  · have := applyC_len acc y; omega
  · intro x hx
    unfold applyC at hx
    split at hx
    · rename_i hn
      rcases List.mem_append.1 hx with hx | hx
      · exact hl.2 x hx
      · rw [List.mem_singleton.1 hx]
        rcases hy with rfl | hy
        · have : newC acc Cm.zero = false := rfl
          rw [this] at hn; cases hn
        · exact hy.2.2.1
    · exact hl.2 x hx

end Go.Proofs.Ytfcaneofkdaicaa
