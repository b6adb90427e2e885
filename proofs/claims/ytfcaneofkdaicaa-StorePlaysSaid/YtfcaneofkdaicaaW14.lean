/-
  Chapter 16: a store beside kept blocks.
-/
import Derived.Test.YtfcaneofkdaicaaW12
namespace Go.Proofs.Ytfcaneofkdaicaa
open Go.RowKit Go.Sort Go.Maps Go.Shelf

abbrev Kb := Nat × TypeId × Array Value
/-- A store, and blocks beside it that stay as they are. -/
structure SK (w0 w : World) (F : List Nat) (B bv bl bd : Nat) (acc : List Cm) (ks : List Kb) : Prop where
  ss : SS w0 w F B bv bl bd acc
  kept : ∀ k ∈ ks, Blk w k.1 k.2.1 k.2.2 ∧ ¬ k.1 ∈ F ∧ w0.heap.size ≤ k.1 ∧ B ≠ k.1

section
variable {w0 w w' : World} {F : List Nat} {B bv bl bd : Nat} {acc : List Cm} {ks : List Kb}
theorem SK.below (h : SK w0 w F B bv bl bd acc ks) (hk : Below w.heap.size w w') : SK w0 w' F B bv bl bd acc ks :=
  ⟨h.ss.below hk, fun k hm => ⟨(h.kept k hm).1.below hk (h.kept k hm).1.lt, (h.kept k hm).2⟩⟩
theorem SK.gr (h : SK w0 w F B bv bl bd acc ks) (hk : Gr w w') : SK w0 w' F B bv bl bd acc ks := h.below hk.below
theorem SK.drew (h : SK w0 w F B bv bl bd acc ks) : SK w0 w.drew F B bv bl bd acc ks := h.gr (Gr.refl w).drew
/-- A new block, kept. -/
theorem SK.box (h : SK w0 w F B bv bl bd acc ks) (t : TypeId) (cs : Array Value) : SK w0 (w.alloc (.cells cs t)) F B bv bl bd acc ((w.heap.size, t, cs) :: ks) := by
  have h1 := h.gr ((Gr.refl w).alloc (.cells cs t))
  refine ⟨h1.ss, fun k hm => ?_⟩
  rcases List.mem_cons.1 hm with rfl | hm
  · exact ⟨Blk.new w t cs, fun e => by have := h.ss.flt _ e; omega, h.ss.bel.size, fun e => by have := h.ss.lt; omega⟩
  · exact h1.kept k hm
theorem SK.drop (h : SK w0 w F B bv bl bd acc ks) {ks' : List Kb} (hs : ∀ k ∈ ks', k ∈ ks) : SK w0 w F B bv bl bd acc ks' := ⟨h.ss, fun k hm => h.kept k (hs k hm)⟩
/-- Apply beside kept blocks. -/
theorem SK.applied (h : SK w0 w F B bv bl bd acc ks) {acc' : List Cm} {F' : List Nat} (hs : SS w0 w' F' B bv bl bd acc') (hk : Only (· ∈ F) w w') (hF : ∀ b ∈ F', b ∈ F ∨ w.heap.size ≤ b) : SK w0 w' F' B bv bl bd acc' ks := by
  refine ⟨hs, fun k hm => ?_⟩
  obtain ⟨h1, h2, h3, h4⟩ := h.kept k hm
  refine ⟨(hk.block _ h1.lt h2).trans h1, fun e => ?_, h3, h4⟩
  rcases hF _ e with e | e
  · exact h2 e
  · have := h1.lt; omega
/-- A cell of a kept block is written. -/
theorem SK.set_ {g : Nat} {t : TypeId} {cs : Array Value} (h : SK w0 w F B bv bl bd acc ((g, t, cs) :: ks)) (hn : ∀ k ∈ ks, k.1 ≠ g) (i : Nat) (u : Value) : SK w0 (w.setCell ⟨g, i, none⟩ u) F B bv bl bd acc ((g, t, cs.setIfInBounds i u) :: ks) := by
  obtain ⟨h1, h2, h3, h4⟩ := h.kept _ List.mem_cons_self
  refine ⟨h.ss.setCell h2 h4 h3 u, fun k hm => ?_⟩
  rcases List.mem_cons.1 hm with rfl | hm
  · exact ⟨Blk.set_ h1 i u, h2, h3, h4⟩
  · obtain ⟨k1, k2⟩ := h.kept k (List.mem_cons_of_mem _ hm)
    exact ⟨k1.far (hn k hm) u, k2⟩
theorem SK.cell (h : SK w0 w F B bv bl bd acc ks) (i : Nat) {g : Nat} {t : TypeId} {cs : Array Value} (hm : (g, t, cs) ∈ ks) (o : Nat) {u : Value} (hu : cs[o]? = some u) : w.cell? ⟨g, o, none⟩ = some u := ((h.kept _ hm).1.cell o).trans hu
theorem SK.cells5 (h : SK w0 w F B bv bl bd acc ks) {g : Nat} {t : TypeId} {a0 a1 a2 a3 a4 : Value} (hm : (g, t, #[a0, a1, a2, a3, a4]) ∈ ks) :
    w.cell? ⟨g, 0, none⟩ = some a0 ∧ w.cell? ⟨g, 1, none⟩ = some a1 ∧ w.cell? ⟨g, 2, none⟩ = some a2 ∧ w.cell? ⟨g, 3, none⟩ = some a3 ∧ w.cell? ⟨g, 4, none⟩ = some a4 :=
  have b := (h.kept _ hm).1
  ⟨(b.cell 0).trans rfl, (b.cell 1).trans rfl, (b.cell 2).trans rfl, (b.cell 3).trans rfl, (b.cell 4).trans rfl⟩
theorem SK.cells4 (h : SK w0 w F B bv bl bd acc ks) {g : Nat} {t : TypeId} {a0 a1 a2 a3 : Value} (hm : (g, t, #[a0, a1, a2, a3]) ∈ ks) :
    w.cell? ⟨g, 0, none⟩ = some a0 ∧ w.cell? ⟨g, 1, none⟩ = some a1 ∧ w.cell? ⟨g, 2, none⟩ = some a2 ∧ w.cell? ⟨g, 3, none⟩ = some a3 :=
  have b := (h.kept _ hm).1
  ⟨(b.cell 0).trans rfl, (b.cell 1).trans rfl, (b.cell 2).trans rfl, (b.cell 3).trans rfl⟩
theorem SK.blk (h : SK w0 w F B bv bl bd acc ks) {g : Nat} {t : TypeId} {cs : Array Value} (hm : (g, t, cs) ∈ ks) : Blk w g t cs := (h.kept _ hm).1
end

/-- Apply, at what it is known to tell. -/
def ApplyAt (w0 w : World) (B bv bl bd : Nat) (ks : List Kb) (acc' : List Cm) (y : Rp) (r : Bool) (e : Ending) (w' : World) : Prop :=
  e = .returned (.tuple #[.agg #[.int .i64 y.c, .int .u32 y.s, .bool y.f, .string y.v], .bool r]) ∧ ∃ F', SK w0 w' F' B bv bl bd acc' ks
theorem apply_at {w0 w : World} {F : List Nat} {B bv bl bd : Nat} {acc : List Cm} {ks : List Kb} (h : SK w0 w F B bv bl bd acc ks) (o c s : Int) (k v : ByteArray) (hf : Cm.Fit ⟨o, c, s, k, v⟩) (hlen : acc.length ≤ 1000000)
    {acc' : List Cm} {y : Rp} {r : Bool} (h1 : told acc ⟨o, c, s, k, v⟩ = y) (h2 : newC acc ⟨o, c, s, k, v⟩ = r) (h3 : applyC acc ⟨o, c, s, k, v⟩ = acc') :
    Calls Try.prog 12 #[.pointer (some ⟨B, 0, none⟩), .agg #[.int .i64 o, .int .i64 c, .int .u32 s, .string k, .string v]] w (ApplyAt w0 w B bv bl bd ks acc' y r) :=
  (apply_any h.ss ⟨o, c, s, k, v⟩ hf hlen).mono fun e w' ⟨he, F', hs, hk, hF⟩ => ⟨by rw [he, h1, h2]; rfl, F', h3 ▸ h.applied hs hk hF⟩

/-- Known, at what it is known to tell. -/
theorem known_at {w0 w : World} {F : List Nat} {B bv bl bd : Nat} {acc : List Cm} (h : SS w0 w F B bv bl bd acc) (c s : Int) (hc : Fits c) (hs : FitsU s) {y : Rp} {r : Int} (hy : (knownOf acc c s).getD Rp.zero = y) (hr : (if (knownOf acc c s).isSome then 0 else 5) = r) :
    Calls Try.prog 17 #[.pointer (some ⟨B, 0, none⟩), .int .i64 c, .int .u32 s] w fun e w' => e = .returned (.tuple #[.agg #[.int .i64 y.c, .int .u32 y.s, .bool y.f, .string y.v], .int .i64 r]) ∧ Gr w w' := by
  cases hk : knownOf acc c s with
  | none =>
    rw [hk] at hy hr
    simp only [Option.getD_none, Option.isSome_none, Bool.false_eq_true, if_false] at hy hr
    subst hy hr
    exact known_no h c s hc hs hk
  | some z =>
    rw [hk] at hy hr
    simp only [Option.getD_some, Option.isSome_some, if_true] at hy hr
    subst hy hr
    exact known_yes h c s hc hs z hk

def exK : ByteArray := ⟨#[107]⟩
def exC : Cm := ⟨1, 1, 1, ⟨#[107]⟩, ⟨#[118]⟩⟩
def exD : Cm := ⟨2, 2, 5, ⟨#[107]⟩, ⟨#[]⟩⟩
theorem ex_facts : (told [] exC = ⟨1, 1, false, ⟨#[]⟩⟩ ∧ newC [] exC = true ∧ applyC [] exC = [exC]) ∧ (told [exC] exC = Rp.zero ∧ newC [exC] exC = false ∧ applyC [exC] exC = [exC]) ∧
    (told [exC] exD = ⟨2, 5, true, ⟨#[118]⟩⟩ ∧ newC [exC] exD = true ∧ applyC [exC] exD = [exC, exD]) := ⟨⟨rfl, rfl, rfl⟩, ⟨rfl, rfl, rfl⟩, rfl, rfl, rfl⟩
theorem ex_known : (knownOf [exC, exD] 1 1 = some ⟨1, 1, false, ⟨#[]⟩⟩) ∧ (knownOf [exC, exD] 1 2 = none) ∧ valOf [exC, exD] ⟨#[107]⟩ = some ⟨#[118]⟩ ∧ (logOf [exC, exD] ⟨#[107]⟩).length = 2 := ⟨rfl, rfl, rfl, rfl⟩
theorem ex_keys : keysOf [exC, exD] = [[107]] := by
  unfold keysOf
  rw [show (valsOf [exC, exD]).map (·.1.data.toList) = [[107]] from rfl, List.mergeSort_singleton]
theorem ex_text : textOf [exC, exD] = [107, 61, 118] := by
  unfold textOf
  rw [ex_keys]
  rfl
theorem ex_fit : exC.Fit ∧ exD.Fit := by
  refine ⟨⟨?_, ?_, ?_, ?_, ?_⟩, ⟨?_, ?_, ?_, ?_, ?_⟩⟩ <;> simp [exC, exD, Fits, FitsU, ByteArray.size]

end Go.Proofs.Ytfcaneofkdaicaa
