/-
  Chapter 16: a store in memory: three maps behind a struct of three cells.
-/
import Derived.Test.YtfcaneofkdaicaaW1
namespace Go.Proofs.Ytfcaneofkdaicaa
open Go.RowKit Go.Sort Go.Maps

/-- Nothing turned but what lies in S, and what is new. -/
structure Only (S : Nat → Prop) (w w' : World) : Prop where
  os : w'.os = w.os
  tape : w'.tape = w.tape
  output : w'.output = w.output
  size : w.heap.size ≤ w'.heap.size
  block : ∀ i, i < w.heap.size → ¬ S i → w'.heap[i]? = w.heap[i]?
section
variable {S T : Nat → Prop} {w w' v : World}
theorem Only.refl (S : Nat → Prop) (w : World) : Only S w w := ⟨rfl, rfl, rfl, Nat.le_refl _, fun _ _ _ => rfl⟩
theorem Only.of_gr (S : Nat → Prop) (h : Gr w w') : Only S w w' := ⟨h.below.os, h.below.tape, h.below.output, h.below.size, fun i hi _ => h.below.block i hi⟩
theorem Only.of_below (S : Nat → Prop) (h : Below w.heap.size w w') : Only S w w' := ⟨h.os, h.tape, h.output, h.size, fun i hi _ => h.block i hi⟩
theorem Only.of_grown {row : Option Nat} (h : w.grownBy w' row) (hr : ∀ g, row = some g → S g ∨ w.heap.size ≤ g) : Only S w w' :=
  ⟨h.os, h.tape, h.output, h.size, fun i hi hn => h.block i hi (fun e => by rcases hr i e.symm with h | h; exact hn h; omega)⟩
/-- What turns later lies in S, or is new. -/
theorem Only.trans (h : Only S w w') (k : Only T w' v) (hT : ∀ b, T b → S b ∨ w.heap.size ≤ b) : Only S w v :=
  ⟨k.os.trans h.os, k.tape.trans h.tape, k.output.trans h.output, Nat.le_trans h.size k.size, fun i hi hn =>
    (k.block i (Nat.lt_of_lt_of_le hi h.size) (fun e => by rcases hT i e with h | h; exact hn h; omega)).trans (h.block i hi hn)⟩
theorem Only.below {B : Nat} (h : Only S w w') (hS : ∀ b, S b → B ≤ b) (hB : B ≤ w.heap.size) : Below B w w' :=
  ⟨h.os, h.tape, h.output, h.size, fun i hi => h.block i (by omega) (fun e => by have := hS i e; omega)⟩
theorem own_only {base size n : Nat} {e : TypeId} {v : Value} {xs : List Value} (h : w.ownsRow base e size v n xs) (hk : Only S w w') (hn : ∀ g, v.ownBlock = some g → ¬ S g) : w'.ownsRow base e size v n xs := by
  rcases h.2 with ⟨rfl, rfl⟩ | ⟨g, cap, cur, rfl, h1, h2, h3⟩
  · exact ⟨h.1, .inl ⟨rfl, rfl⟩⟩
  · refine ⟨h.1, .inr ⟨g, cap, cur, rfl, h1, (hk.block g ?_ (hn g rfl)).trans h2, h3⟩⟩
    exact (Array.getElem?_eq_some_iff.1 h2).1
end

structure Lg where
  k : ByteArray
  l : List Cm
  g : Nat
  cap : Nat
def Lg.slice (x : Lg) : Value := .slice (some ⟨x.g, 0, none⟩) x.l.length x.cap
def Lg.entry (x : Lg) : Value × Value := (.string x.k, x.slice)

/-- The logs: a map of slices, each of the call's own, none of them one with another. -/
structure LogsAt (w : World) (base bl : Nat) (gs : List Lg) (logs : List (ByteArray × List Cm)) : Prop where
  eq : gs.map (fun x => (x.k, x.l)) = logs
  map : MapIs Try.prog 9 w bl (gs.map Lg.entry)
  own : ∀ x ∈ gs, w.ownsRow base 33 5 x.slice x.l.length (cellsL Cm.cells x.l)
  ne : ∀ x ∈ gs, x.l ≠ []
  nodup : (gs.map (·.g)).Nodup

def valE (p : ByteArray × ByteArray) : Value × Value := (.string p.1, .string p.2)
def repE (r : Rp) : Value × Value := (askV r.c r.s, r.val)

/-- The store at B, its maps at bv, bl, bd; what was done is acc. F: the blocks that it may turn. -/
structure SS (w0 w : World) (F : List Nat) (B bv bl bd : Nat) (acc : List Cm) : Prop where
  bel : Below w0.heap.size w0 w
  blk : Blk w B 71 #[.map (some bv), .map (some bl), .map (some bd)]
  mv : MapIs Try.prog 9 w bv ((valsOf acc).map valE)
  lg : ∃ gs, LogsAt w w0.heap.size bl gs (logsOf acc) ∧ ∀ x ∈ gs, x.g ∈ F
  md : MapIs Try.prog 74 w bd ((reps acc).map repE)
  vl : bv ≠ bl
  vd : bv ≠ bd
  ld : bl ≠ bd
  inF : bv ∈ F ∧ bl ∈ F ∧ bd ∈ F
  ge : ∀ b ∈ F, w0.heap.size ≤ b
  flt : ∀ b ∈ F, b < w.heap.size
  BF : ¬ B ∈ F
  gB : w0.heap.size ≤ B
  ok : AccOk acc
  fit : ∀ x ∈ acc, x.Fit

section
variable {w0 w w' : World} {F : List Nat} {B bv bl bd : Nat} {acc : List Cm}
theorem Lg.own {x : Lg} : x.slice.ownBlock = some x.g := rfl
theorem LogsAt.only {base : Nat} {gs : List Lg} {logs : List (ByteArray × List Cm)} {S : Nat → Prop} (h : LogsAt w base bl gs logs) (hk : Only S w w') (hb : ¬ S bl) (hg : ∀ x ∈ gs, ¬ S x.g) : LogsAt w' base bl gs logs :=
  ⟨h.eq, h.map.same (hk.block bl h.map.lt hb), fun x hx => own_only (h.own x hx) hk (fun g e => by injection e with e; exact e ▸ hg x hx), h.ne, h.nodup⟩
/-- Beside the store. -/
theorem SS.only {S : Nat → Prop} (h : SS w0 w F B bv bl bd acc) (hk : Only S w w') (hF : ∀ b ∈ F, ¬ S b) (hB : ¬ S B) (hS : ∀ b, S b → w0.heap.size ≤ b) : SS w0 w' F B bv bl bd acc := by
  obtain ⟨gs, h1, h2⟩ := h.lg
  exact ⟨h.bel.trans (hk.below hS h.bel.size), (hk.block B h.blk.lt hB).trans h.blk, h.mv.same (hk.block bv h.mv.lt (hF _ h.inF.1)),
    ⟨gs, h1.only hk (hF _ h.inF.2.1) fun x hx => hF _ (h2 x hx), h2⟩, h.md.same (hk.block bd h.md.lt (hF _ h.inF.2.2)), h.vl, h.vd, h.ld, h.inF, h.ge, fun b hb => Nat.lt_of_lt_of_le (h.flt b hb) hk.size, h.BF, h.gB, h.ok, h.fit⟩
theorem SS.below (h : SS w0 w F B bv bl bd acc) (hk : Below w.heap.size w w') : SS w0 w' F B bv bl bd acc := h.only (S := fun _ => False) (Only.of_below _ hk) (fun _ _ e => e) (fun e => e) (fun _ e => e.elim)
theorem SS.gr (h : SS w0 w F B bv bl bd acc) (hk : Gr w w') : SS w0 w' F B bv bl bd acc := h.below hk.below
theorem SS.alloc (h : SS w0 w F B bv bl bd acc) (o : Obj) : SS w0 (w.alloc o) F B bv bl bd acc := h.gr ((Gr.refl w).alloc o)
theorem SS.drewN (h : SS w0 w F B bv bl bd acc) (n : Nat) : SS w0 (w.drewN n) F B bv bl bd acc := h.gr ((Gr.refl w).drewN n)
theorem SS.drew (h : SS w0 w F B bv bl bd acc) : SS w0 w.drew F B bv bl bd acc := h.drewN 1
/-- A cell of a block beside the store is written. -/
theorem SS.setCell (h : SS w0 w F B bv bl bd acc) {p : Addr} (hp : ¬ p.block ∈ F) (hB : B ≠ p.block) (hg : w0.heap.size ≤ p.block) (u : Value) : SS w0 (w.setCell p u) F B bv bl bd acc := by
  refine h.only (S := fun b => b = p.block) ⟨rfl, rfl, rfl, by simp [World.setCell], fun i _ hn => Below.heap_setCell w p u i hn⟩ (fun b hb e => hp (e ▸ hb)) hB (fun b e => e ▸ hg)
theorem SS.c0 (h : SS w0 w F B bv bl bd acc) : w.cell? ⟨B, 0, none⟩ = some (.map (some bv)) := (h.blk.cell 0).trans rfl
theorem SS.c1 (h : SS w0 w F B bv bl bd acc) : w.cell? ⟨B, 1, none⟩ = some (.map (some bl)) := (h.blk.cell 1).trans rfl
theorem SS.c2 (h : SS w0 w F B bv bl bd acc) : w.cell? ⟨B, 2, none⟩ = some (.map (some bd)) := (h.blk.cell 2).trans rfl
theorem SS.lt (h : SS w0 w F B bv bl bd acc) : B < w.heap.size := h.blk.lt
end


theorem getP_vals (k : ByteArray) (m : List (ByteArray × ByteArray)) : getP (.string k) (m.map valE) = (aGet k m).map Value.string := by
  classical
  unfold getP aGet
  rw [List.find?_map]
  have : ((fun x : Value × Value => decide (x.1 = .string k)) ∘ valE) = fun x => decide (x.1 = k) := by
    funext x
    exact decide_eq_decide.2 strV_inj
  rw [this, Option.map_map, Option.map_map]
  rfl
theorem getP_logs (k : ByteArray) (gs : List Lg) : getP (.string k) (gs.map Lg.entry) = (gs.find? fun x => decide (x.k = k)).map Lg.slice := by
  classical
  unfold getP
  rw [List.find?_map]
  have : ((fun x : Value × Value => decide (x.1 = .string k)) ∘ Lg.entry) = fun x => decide (x.k = k) := by
    funext x
    exact decide_eq_decide.2 strV_inj
  rw [this, Option.map_map]
  rfl
theorem getP_reps (c s : Int) (l : List Rp) : getP (askV c s) (l.map repE) = (l.find? fun r => r.asks c s).map Rp.val := by
  classical
  unfold getP
  rw [List.find?_map]
  have : ((fun x : Value × Value => decide (x.1 = askV c s)) ∘ repE) = fun r => r.asks c s := by
    funext x
    unfold Rp.asks
    exact decide_eq_decide.2 askV_inj
  rw [this, Option.map_map]
  rfl

theorem putP_vals (k v : ByteArray) : ∀ m : List (ByteArray × ByteArray), putP (.string k) (.string v) (m.map valE) = (aPut k v m).map valE
  | [] => rfl
  | x :: r => by
    rw [List.map_cons, putP, aPut]
    by_cases h : x.1 = k
    · rw [if_pos (show (valE x).1 = .string k from strV_inj.2 h), if_pos h]; rfl
    · rw [if_neg (show ¬ (valE x).1 = .string k from fun e => h (strV_inj.1 e)), if_neg h, putP_vals k v r]; rfl
theorem delP_vals (k : ByteArray) (m : List (ByteArray × ByteArray)) : delP (.string k) (m.map valE) = (aDel k m).map valE := by
  unfold delP aDel
  rw [List.filter_map]
  congr 1
  refine List.filter_congr fun x _ => ?_
  have h : ((valE x).1 = .string k) ↔ x.1 = k := strV_inj
  simp [Function.comp, h]

theorem zero_str (w : World) : (zeroValue 9).run Try.prog w = .ok (.string ⟨#[]⟩) w := by
  have h := Try.zeroValue9 w
  exact h
theorem zero_rep (w : World) : (zeroValue 38).run Try.prog w = .ok Rp.zero.val w := by
  have h := Try.zeroValue38 w
  exact h
theorem zero_log (w : World) : (zeroValue 53).run Try.prog w = .ok (.slice none 0 0) w := by
  have h := Try.zeroValue53 w
  exact h

set_option maxHeartbeats 400000 in
theorem new_any (w0 w : World) (hw : Below w0.heap.size w0 w) : Calls Try.prog 10 #[] w fun e w' =>
    ∃ F B bv bl bd, e = .returned (.pointer (some ⟨B, 0, none⟩)) ∧ SS w0 w' F B bv bl bd [] ∧ Gr w w' ∧ (∀ b ∈ F, w.heap.size ≤ b) ∧ w.heap.size ≤ B := by
  have hmm := @run_makeMap Try.prog
  go_enter Try.func10, Try.ntmps10
  go_wp2_with fail
  go_ret
  have hs := hw.size
  have hB := Blk.new (((w.alloc (.map #[] 0)).alloc (.map #[] 0)).alloc (.map #[] 0)) 71 #[.map (some w.heap.size), .map (some (w.heap.size + 1)), .map (some (w.heap.size + 1 + 1))]
  rw [World.size_alloc, World.size_alloc, World.size_alloc] at hB
  have hl := MapIs.made Try.prog 9 (w.alloc (.map #[] 0))
  rw [World.size_alloc] at hl
  have hd := MapIs.made Try.prog 74 ((w.alloc (.map #[] 0)).alloc (.map #[] 0))
  rw [World.size_alloc, World.size_alloc] at hd
  have hm : ∀ b, b ∈ [w.heap.size, w.heap.size + 1, w.heap.size + 1 + 1] → w.heap.size ≤ b ∧ b < w.heap.size + 1 + 1 + 1 := by
    intro b hb
    simp only [List.mem_cons, List.not_mem_nil, or_false] at hb
    omega
  refine ⟨[w.heap.size, w.heap.size + 1, w.heap.size + 1 + 1], w.heap.size + 1 + 1 + 1, w.heap.size, w.heap.size + 1, w.heap.size + 1 + 1, rfl,
    { bel := ?_, blk := hB, mv := (((MapIs.made Try.prog 9 w).alloc _).alloc _).alloc _, lg := ⟨[], ⟨rfl, (hl.alloc _).alloc _, by simp, by simp, List.nodup_nil⟩, by simp⟩, md := hd.alloc _, vl := by omega, vd := by omega, ld := by omega,
      inF := by simp, ge := fun b hb => by have := hm b hb; omega, flt := fun b hb => by have := hm b hb; simp only [World.size_alloc]; omega, BF := fun hb => by have := hm _ hb; omega, gB := by omega, ok := AccOk.nil, fit := by simp }, ?_, fun b hb => (hm b hb).1, by omega⟩
  · exact (((hw.alloc hw.size _).alloc (by simp only [World.size_alloc]; omega) _).alloc (by simp only [World.size_alloc]; omega) _).alloc (by simp only [World.size_alloc]; omega) _
  · exact ((((Gr.refl w).alloc _).alloc _).alloc _).alloc _

section
variable {w0 w : World} {F : List Nat} {B bv bl bd : Nat} {acc : List Cm}
theorem SS.lookV (h : SS w0 w F B bv bl bd acc) (k : ByteArray) (hk : k.size ≤ 9223372036854775807) (c : Bool) :
    (Instr.lookup 67 (.map (some bv)) (.string k) c).run Try.prog w = .ok (if c then .tuple #[.string ((valOf acc k).getD ⟨#[]⟩), .bool (valOf acc k).isSome] else .string ((valOf acc k).getD ⟨#[]⟩)) w := by
  obtain ⟨kl, hkl⟩ := str_key k hk
  rw [h.mv.look str_law Try.underlying67 (zero_str w) hkl c, getP_vals, valsOf_get]
  cases valOf acc k <;> rfl
theorem SS.lookD (h : SS w0 w F B bv bl bd acc) (c s : Int) (hc : Fits c) (hs : FitsU s) :
    (Instr.lookup 69 (.map (some bd)) (askV c s) true).run Try.prog w = .ok (.tuple #[((knownOf acc c s).getD Rp.zero).val, .bool (knownOf acc c s).isSome]) w := by
  obtain ⟨kl, hkl⟩ := ask_key c s hc hs
  rw [h.md.look ask_law Try.underlying69 (zero_rep w) hkl true, getP_reps]
  unfold knownOf
  cases (reps acc).find? fun r => r.asks c s <;> rfl
end

set_option maxHeartbeats 400000 in
theorem value_any {w0 w : World} {F : List Nat} {B bv bl bd : Nat} {acc : List Cm} (h : SS w0 w F B bv bl bd acc) (k : ByteArray) (hk : k.size ≤ 9223372036854775807) (v : ByteArray) (r : Bool) (hv : (valOf acc k).getD ⟨#[]⟩ = v) (hr : (valOf acc k).isSome = r) :
    Calls Try.prog 15 #[.pointer (some ⟨B, 0, none⟩), .string k] w fun e w' => e = .returned (.tuple #[.string v, .bool r]) ∧ w = w' := by
  have hl := h.lookV k hk true
  rw [hv, hr] at hl
  simp only [if_true] at hl
  have c0 := h.c0
  clear h hk hv hr
  go_enter Try.func15, Try.ntmps15
  go_wp2_with fail
  go_ret2
  exact ⟨rfl, rfl⟩

theorem len_map {t k e : TypeId} (ht : Try.prog.underlying t = some (.map k e)) {b : Nat} {es : Array MapEntry} {clock : Nat} {w : World} (hb : w.heap[b]? = some (.map es clock)) (ty : TypeId) :
    (Builtin.len_ #[t] ty #[.map (some b)]).run Try.prog w = .ok (.int .i64 es.size) w := by
  simp [Builtin.len_, run_underlying ht, MapKept.run_getObj_map hb, goInt]

set_option maxHeartbeats 400000 in
theorem many_any {w0 w : World} {F : List Nat} {B bv bl bd : Nat} {acc : List Cm} (h : SS w0 w F B bv bl bd acc) :
    Calls Try.prog 22 #[.pointer (some ⟨B, 0, none⟩)] w fun e w' => e = .returned (.int .i64 acc.length) ∧ w = w' := by
  obtain ⟨es, clock, hb, hs⟩ := h.md.size
  rw [List.length_map, reps_len] at hs
  have c2 := h.c2
  have hl := len_map Try.underlying69 hb
  rw [hs] at hl
  obtain ⟨n, hn⟩ : ∃ n : Int, n = (acc.length : Int) := ⟨_, rfl⟩
  rw [← hn] at hl ⊢
  clear h hs hb hn
  go_enter Try.func22, Try.ntmps22
  go_wp2_with fail
  go_ret
  exact ⟨rfl, rfl⟩

end Go.Proofs.Ytfcaneofkdaicaa
