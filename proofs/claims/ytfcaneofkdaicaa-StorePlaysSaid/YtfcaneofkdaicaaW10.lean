/-
  Chapter 16: the logs told, the keys: walked.
-/
import Derived.Test.YtfcaneofkdaicaaW9
namespace Go.Proofs.Ytfcaneofkdaicaa
open Go.RowKit Go.Sort Go.Maps Go.Shelf

theorem own_base {w : World} {base base' size n : Nat} {e : TypeId} {v : Value} {xs : List Value} (h : w.ownsRow base e size v n xs) (hb : base' ≤ base) : w.ownsRow base' e size v n xs := by
  rcases h.2 with h2 | ⟨g, cap, cur, rfl, h1, h2⟩
  · exact ⟨h.1, .inl h2⟩
  · exact ⟨h.1, .inr ⟨g, cap, cur, rfl, by omega, h2⟩⟩

theorem clone_any (w : World) (base : Nat) (v : Value) (l : List Cm) (h : w.ownsRow base 33 5 v l.length (cellsL Cm.cells l)) (hl : l.length ≤ 1000000) :
    Calls Try.prog 29 #[v] w fun e w' => ∃ v', e = .returned v' ∧ w'.ownsRow w.heap.size 33 5 v' l.length (cellsL Cm.cells l) ∧ Below w.heap.size w w' := by
  obtain ⟨i0, hi0, hz0, hz1, hz2⟩ := info_parts cmd_info
  rcases h.2 with ⟨rfl, hx⟩ | ⟨g, cap, cur, rfl, h1, h2, h3⟩
  · have h0 := AnyE.slices_Clone_nil lay_clone l.length 0 w
    have hl0 : l = [] := by
      cases l with
      | nil => rfl
      | cons x r => simp [cellsL, Cm.cells] at hx
    subst hl0
    exact (AnyE.slices_Clone_nil lay_clone 0 0 w).mono fun e w' ⟨he, hw⟩ => ⟨_, he, ⟨rfl, .inl ⟨rfl, rfl⟩⟩, hw ▸ Below.refl _ _⟩
  · have hc := AnyE.slices_Clone lay_clone i0 Cm.zero.val 5 56 hi0 hz0 hz1 hz2 rfl (by omega) (fun w => Try.sizeOf33 w) g 0 l.length cap (cellsL Cm.cells l) w (cellsL_len Cm.cells cmd_len l) (by unfold maxLen; omega) (by omega)
      (fun j u hu => by have := h.cells (g := g) rfl j u hu; rwa [show (⟨g, 0, none⟩ : Addr).add j = ⟨g, 0 + j, none⟩ from by unfold Addr.add; split <;> simp_all] at this) (cellsL_oneCell Cm.cells cmd_one l)
    exact hc.mono fun e w' ⟨v', he, ho, _, hb⟩ => ⟨v', he, ho, hb⟩

def Cloned (w : World) (l : List Cm) (e : Ending) (w' : World) : Prop := ∃ v, e = .returned v ∧ w'.ownsRow w.heap.size 33 5 v l.length (cellsL Cm.cells l) ∧ Below w.heap.size w w'

set_option maxHeartbeats 400000 in
theorem log_any {w0 w : World} {F : List Nat} {B bv bl bd : Nat} {acc : List Cm} (h : SS w0 w F B bv bl bd acc) (k : ByteArray) (hk : k.size ≤ 9223372036854775807) (hlen : acc.length ≤ 1000000) :
    Calls Try.prog 19 #[.pointer (some ⟨B, 0, none⟩), .string k] w (Cloned w (logOf acc k)) := by
  obtain ⟨gs, h1, h2⟩ := logL_of h k
  have hl := h1.look k hk
  have ho := h1.own_of k
  rw [h2] at ho
  obtain ⟨V, hV⟩ : ∃ V, V = logV gs k := ⟨_, rfl⟩
  rw [← hV] at hl ho
  have c1 := h.c1
  obtain ⟨l, hL⟩ : ∃ l, l = logOf acc k := ⟨_, rfl⟩
  have hll : l.length ≤ 1000000 := by rw [hL]; exact Nat.le_trans (List.length_filter_le _ _) hlen
  rw [← hL] at ho ⊢
  have C := hide (clone_any w _ V l ho hll)
  clear h h1 h2 ho hV hL hll hlen
  go_enter Try.func19, Try.ntmps19
  go_wp2_with fail
  refine C.out.mono ?_
  rintro e w1 ⟨v, rfl, ho, hb⟩
  have O := hide ho
  have B1 := hide hb
  clear ho hb
  go_wp2_with fail
  go_ret
  exact ⟨v, rfl, O.out, B1.out⟩

/-- slices.Sort's two contracts, at the fence that asks nothing. -/
theorem sortsA (m : Nat) : AnyZ.SortsIn Try.prog lay_sortedA_ren Fence.wide m :=
  ⟨fun blk off cap ss W hH hblk hsz => callsIn_wide.2 (AnyM.slices_Sort_string lay_sortA blk off cap ss W hH hblk hsz),
   fun p cap W => callsIn_wide.2 (AnyM.slices_Sort_string_none lay_sortA p cap W)⟩

def anyR : Value → Option (DataW Unit × List MemPlace) := fun _ => some (.nil, [])
noncomputable def keyText (x : MapEntry) : List UInt8 := strOf (Go.WideElems.rg Try.prog 9 anyR x).1
set_option maxRecDepth 100000 in
theorem keyText_eq : ((fun p : Lit × DataW Unit => strOf p.1) ∘ Go.WideElems.rg Try.prog 9 anyR) = keyText := by
  funext x
  simp only [Function.comp_apply, keyText]
set_option maxRecDepth 100000 in
/-- A map of strings as the kit has it, whatever it holds. -/
theorem owns_str {w : World} {b : Nat} {β : Type} {m : List (ByteArray × β)} {f : β → Value} (h : MapIs Try.prog 9 w b (m.map fun p => (.string p.1, f p.2))) (hm : m.length ≤ 1000000) :
    ∃ D : DataW Unit, w.ownsMap Try.prog 9 anyR b m.length D ∧ Maps.size D = m.length ∧ (strKeys D).Perm (m.map (·.1.data.toList)) := by
  obtain ⟨es, clock, hb, hp, hk, hst⟩ := h
  have hlen : es.size = m.length := by
    have := congrArg List.length hp
    simpa [pairs] using this
  refine ⟨_, ⟨es, clock, hb, ⟨by unfold maxLen; omega, hst, fun x hx => ?_⟩, Nat.le_of_eq hlen, rfl⟩, ?_, ?_⟩
  · obtain ⟨l, hl⟩ := hk x hx
    exact ⟨(l, .nil), by simp [Go.WideElems.rd, hl, anyR]⟩
  · show List.length _ = _
    rw [length_sorted]
    simpa using hlen
  · refine (List.Perm.map _ (Go.WideShapes.sorted_perm _)).trans ?_
    rw [List.map_map]
    have hkeys : m.map (fun p => Value.string p.1) = es.toList.map (·.key) := by
      have := congrArg (List.map (·.1)) hp
      unfold pairs at this
      simp only [List.map_map, Function.comp_def] at this
      exact this.symm
    have h1 : ∀ x ∈ es.toList, ∀ s : ByteArray, x.key = .string s → keyText x = s.data.toList := by
      intro x hx s hs
      obtain ⟨l, hl⟩ := hk x hx
      have hr : Go.WideElems.rd Try.prog 9 anyR x = some (l, .nil) := by simp [Go.WideElems.rd, hl, anyR]
      unfold keyText Go.WideElems.rg
      rw [hr]
      rw [hs] at hl
      simp only [keyOf, Try.underlying9, mapKey] at hl
      split at hl
      · cases hl; rfl
      · cases hl
    have h2 : ∀ (l1 : List MapEntry) (l2 : List (ByteArray × β)), (∀ x ∈ l1, x ∈ es.toList) → l2.map (fun p => Value.string p.1) = l1.map (·.key) → l1.map keyText = l2.map (·.1.data.toList) := by
      intro l1
      induction l1 with
      | nil => intro l2 _ h; cases l2 with
        | nil => rfl
        | cons _ _ => cases h
      | cons x r ih =>
        intro l2 hx h
        cases l2 with
        | nil => cases h
        | cons p q =>
          rw [List.map_cons, List.map_cons] at h
          injection h with e1 e2
          rw [List.map_cons, List.map_cons]
          rw [h1 x (hx x List.mem_cons_self) p.1 e1.symm, ih q (fun y hy => hx y (List.mem_cons_of_mem _ hy)) e2]
    have this : es.toList.map keyText = m.map (·.1.data.toList) := h2 _ _ (fun _ h => h) hkeys
    rw [keyText_eq]
    rw [this]


def Keyed' (w : World) (acc : List Cm) (e : Ending) (w' : World) : Prop := ∃ v, e = .returned v ∧ w'.ownsRow w.heap.size 9 1 v (keysOf acc).length ((keysOf acc).map encStr) ∧ Below w.heap.size w w'

theorem vals_len (acc : List Cm) : (valsOf acc).length ≤ acc.length := by
  unfold valsOf
  have hp : ∀ (k v : ByteArray) (m : List (ByteArray × ByteArray)), (aPut k v m).length ≤ m.length + 1 := by
    intro k v m
    induction m with
    | nil => simp [aPut]
    | cons x r ih => rw [aPut]; split <;> simp; omega
  have : ∀ (l : List Cm) (m : List (ByteArray × ByteArray)), (l.foldl stepV m).length ≤ m.length + l.length := by
    intro l
    induction l with
    | nil => intro m; simp
    | cons x r ih =>
      intro m
      have h1 := ih (stepV m x)
      have h2 : (stepV m x).length ≤ m.length + 1 := by
        unfold stepV
        split
        · exact hp _ _ _
        · split
          · unfold aDel; have := List.length_filter_le (fun y : ByteArray × ByteArray => !decide (y.1 = x.k)) m; omega
          · omega
      rw [List.foldl_cons, List.length_cons]
      omega
  have := this acc []
  simpa using this

set_option maxHeartbeats 1000000 in
/-- maps.Keys: a function that goes through the map's keys. -/
theorem keysF (b : Nat) (w : World) : Calls Try.prog 32 #[.map (some b)] w fun e w' => e = .returned (.func (.func 38) #[] #[.pointer (some ⟨w.heap.size, 0, none⟩)]) ∧ w' = w.alloc (.cells #[.map (some b)] 67) :=
  (callsIn_wide (n := 6)).1 (AnyZ.keys_in lay_keysA Fence.wide 6 trivial rfl (some b) w)

set_option maxHeartbeats 1000000 in
theorem sortedF (acc : List Cm) (b : Nat) (w : World) (hm : MapIs Try.prog 9 w b ((valsOf acc).map valE)) (hlen : acc.length ≤ 1000000) :
    Calls Try.prog 31 #[.func (.func 38) #[] #[.pointer (some ⟨w.heap.size, 0, none⟩)]] (w.alloc (.cells #[.map (some b)] 67))
      fun e w' => ∃ v, e = .returned v ∧ w'.ownsRow (w.heap.size + 1) 9 1 v (keysOf acc).length ((keysOf acc).map encStr) ∧ Below (w.heap.size + 1) (w.alloc (.cells #[.map (some b)] 67)) w' := by
  have hvl := vals_len acc
  obtain ⟨D, hown, hsz, hperm⟩ := owns_str (f := Value.string) hm (by omega)
  have hbl := hm.lt
  have hseq : SeqGives Fence.wide 2 Try.prog 38 #[.pointer (some ⟨w.heap.size, 0, none⟩)] encStr (fun ss => ss.Perm (strKeys D)) (Maps.size D) (w.alloc (.cells #[.map (some b)] 67)) :=
    AnyZ.keys_gives (ρ := lay_keysA_ren) { lay_keysA with } Fence.wide _ trivial rfl (by omega) w.heap.size b (valsOf acc).length D _ (by simp) (by simp) (by
      obtain ⟨es, clock, hb, Ft, hs, hD⟩ := hown
      exact ⟨es, clock, (Below.heap_alloc _ _ b hbl).trans hb, Ft, hs, hD⟩)
  have cS := AnyZ.sorted_in lay_sortedA Fence.wide 5 trivial trivial trivial trivial rfl (by omega) (sortsA _) (enters_of Try.func37 (by kernel_rfl) rfl) 38 #[.pointer (some ⟨w.heap.size, 0, none⟩)] trivial (enters_of Try.func38 (by kernel_rfl) rfl) _ _ (by rw [hsz]; unfold maxLen; omega) (by rw [hsz]; omega) _ hseq
  refine ((callsIn_wide (n := 5)).1 cS).mono ?_
  rintro e w' ⟨v, ss, rfl, hS, hrow, _, hb⟩
  have hk : ss.mergeSort (fun x y => decide (x ≤ y)) = keysOf acc := mergeSort_of_perm (hS.trans hperm)
  have hl : ss.length = (keysOf acc).length := by rw [← hk, List.length_mergeSort]
  rw [hk, hl] at hrow
  rw [World.size_alloc] at hrow hb
  exact ⟨v, rfl, hrow, hb⟩

set_option maxHeartbeats 1000000 in
theorem keys_any {w0 w : World} {F : List Nat} {B bv bl bd : Nat} {acc : List Cm} (h : SS w0 w F B bv bl bd acc) (hlen : acc.length ≤ 1000000) :
    Calls Try.prog 25 #[.pointer (some ⟨B, 0, none⟩)] w (Keyed' w acc) := by
  have c0 := h.c0
  have K1 := hide (keysF bv w)
  have K2 := hide (sortedF acc bv w h.mv hlen)
  clear h hlen
  go_enter Try.func25, Try.ntmps25
  go_wp2_with fail
  refine K1.out.mono ?_
  rintro e w1 ⟨rfl, rfl⟩
  go_wp2_with fail
  refine K2.out.mono ?_
  rintro e w1 ⟨v, rfl, ho, hb⟩
  have O := hide ho
  have B1 := hide hb
  clear ho hb
  go_wp2_with fail
  go_ret
  exact ⟨v, rfl, own_base O.out (by omega), ((Below.refl _ w).alloc (Nat.le_refl _) _).trans (B1.out.mono (by omega))⟩

end Go.Proofs.Ytfcaneofkdaicaa
