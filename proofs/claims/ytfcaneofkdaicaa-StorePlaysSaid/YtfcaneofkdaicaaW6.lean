/-
  Chapter 16: the logs, with one command more.
-/
import Derived.Test.YtfcaneofkdaicaaW5
namespace Go.Proofs.Ytfcaneofkdaicaa
open Go.RowKit Go.Sort Go.Maps

theorem own_map_ne {P : Program} {k : TypeId} {w : World} {b base size n : Nat} {e : TypeId} {v : Value} {xs : List Value} {m : List (Value × Value)} (h : w.ownsRow base e size v n xs) (hm : MapIs P k w b m) : some b ≠ v.ownBlock := by
  rcases h.2 with ⟨rfl, _⟩ | ⟨g, cap, cur, rfl, _, h2, _⟩
  · simp [Value.ownBlock]
  · intro e1
    have : b = g := by simpa [Value.ownBlock] using e1
    subst this
    exact hm.ne_blk (g := b) h2 rfl
theorem own_grown {w w' : World} {base size n : Nat} {e : TypeId} {v : Value} {xs : List Value} {row : Option Nat} (h : w.ownsRow base e size v n xs) (hg : w.grownBy w' row) (hn : v.ownBlock = none ∨ v.ownBlock ≠ row) : w'.ownsRow base e size v n xs := by
  rcases h.2 with ⟨rfl, rfl⟩ | ⟨g, cap, cur, rfl, h1, h2, h3⟩
  · exact ⟨h.1, .inl ⟨rfl, rfl⟩⟩
  · refine ⟨h.1, .inr ⟨g, cap, cur, rfl, h1, (hg.block g (Array.getElem?_eq_some_iff.1 h2).1 ?_).trans h2, h3⟩⟩
    rcases hn with hn | hn
    · simp [Value.ownBlock] at hn
    · exact hn

theorem inj_nodup {α β : Type} (f : α → β) : ∀ {l : List α}, (l.map f).Nodup → ∀ a ∈ l, ∀ b ∈ l, f a = f b → a = b
  | [], _, a, h, _, _, _ => by cases h
  | x :: r, hn, a, ha, b, hb, e => by
    rw [List.map_cons, List.nodup_cons] at hn
    rcases List.mem_cons.1 ha with rfl | ha2 <;> rcases List.mem_cons.1 hb with rfl | hb2
    · rfl
    · exact absurd (List.mem_map.2 ⟨b, hb2, e.symm⟩) hn.1
    · exact absurd (List.mem_map.2 ⟨a, ha2, e⟩) hn.1
    · exact inj_nodup f hn.2 a ha2 b hb2 e

def putLg (y : Lg) : List Lg → List Lg
  | [] => [y]
  | x :: r => if x.k = y.k then y :: r else x :: putLg y r
theorem putLg_logs (y : Lg) : ∀ gs : List Lg, (putLg y gs).map (fun x => (x.k, x.l)) = aPut y.k y.l (gs.map fun x => (x.k, x.l))
  | [] => rfl
  | x :: r => by
    rw [putLg, List.map_cons, aPut]
    by_cases h : x.k = y.k
    · rw [if_pos h, if_pos h]; rfl
    · rw [if_neg h, if_neg h, List.map_cons, putLg_logs y r]
theorem putLg_entry (y : Lg) : ∀ gs : List Lg, putP (.string y.k) y.slice (gs.map Lg.entry) = (putLg y gs).map Lg.entry
  | [] => rfl
  | x :: r => by
    rw [putLg, List.map_cons, putP]
    by_cases h : x.k = y.k
    · rw [if_pos (show x.entry.1 = .string y.k from strV_inj.2 h), if_pos h]; rfl
    · rw [if_neg (show ¬ x.entry.1 = .string y.k from fun e => h (strV_inj.1 e)), if_neg h, putLg_entry y r]; rfl
theorem putLg_mem {y : Lg} : ∀ {gs : List Lg}, (gs.map (·.k)).Nodup → ∀ x ∈ putLg y gs, x = y ∨ (x ∈ gs ∧ x.k ≠ y.k)
  | [], _, x, h => by
    unfold putLg at h
    exact .inl (List.mem_singleton.1 h)
  | z :: r, hn, x, h => by
    rw [List.map_cons, List.nodup_cons] at hn
    unfold putLg at h
    by_cases hz : z.k = y.k
    · rw [if_pos hz] at h
      rcases List.mem_cons.1 h with h | h
      · exact .inl h
      · refine .inr ⟨List.mem_cons_of_mem _ h, fun e => hn.1 ?_⟩
        rw [hz, ← e]
        exact List.mem_map.2 ⟨x, h, rfl⟩
    · rw [if_neg hz] at h
      rcases List.mem_cons.1 h with rfl | h
      · exact .inr ⟨List.mem_cons_self, hz⟩
      · rcases putLg_mem hn.2 x h with h | ⟨h1, h2⟩
        · exact .inl h
        · exact .inr ⟨List.mem_cons_of_mem _ h1, h2⟩
theorem putLg_nodup {y : Lg} : ∀ {gs : List Lg}, (gs.map (·.k)).Nodup → (gs.map (·.g)).Nodup → (∀ x ∈ gs, x.k ≠ y.k → x.g ≠ y.g) → ((putLg y gs).map (·.g)).Nodup
  | [], _, _, _ => by simp [putLg]
  | z :: r, hk, hg, hy => by
    rw [List.map_cons, List.nodup_cons] at hk hg
    unfold putLg
    have hr : ∀ x ∈ r, x.k ≠ y.k → x.g ≠ y.g := fun x hx => hy x (List.mem_cons_of_mem _ hx)
    by_cases hz : z.k = y.k
    · rw [if_pos hz, List.map_cons, List.nodup_cons]
      refine ⟨fun hm => ?_, hg.2⟩
      obtain ⟨x, hx, e⟩ := List.mem_map.1 hm
      refine hr x hx (fun e2 => hk.1 ?_) e
      rw [hz, ← e2]
      exact List.mem_map.2 ⟨x, hx, rfl⟩
    · rw [if_neg hz, List.map_cons, List.nodup_cons]
      refine ⟨fun hm => ?_, putLg_nodup hk.2 hg.2 hr⟩
      obtain ⟨x, hx, e⟩ := List.mem_map.1 hm
      rcases putLg_mem hk.2 x hx with rfl | ⟨h1, _⟩
      · exact hy z List.mem_cons_self hz e.symm
      · exact hg.1 (List.mem_map.2 ⟨x, h1, e⟩)

/-- A key's log, as the map has it. -/
def logV (gs : List Lg) (k : ByteArray) : Value := ((gs.find? fun x => decide (x.k = k)).map Lg.slice).getD (.slice none 0 0)
def logL (gs : List Lg) (k : ByteArray) : List Cm := ((gs.find? fun x => decide (x.k = k)).map Lg.l).getD []
theorem logL_get (gs : List Lg) (k : ByteArray) : (aGet k (gs.map fun x => (x.k, x.l))).getD [] = logL gs k := by
  unfold aGet logL
  rw [List.find?_map]
  show ((Option.map _ (gs.find? fun x => decide (x.k = k))).map _).getD _ = _
  rw [Option.map_map]
  rfl
section
variable {w : World} {base bl : Nat} {gs : List Lg} {logs : List (ByteArray × List Cm)}
theorem LogsAt.keys (h : LogsAt w base bl gs logs) : gs.map (·.k) = logs.map (·.1) := by rw [← h.eq, List.map_map]; rfl
theorem LogsAt.own_of (h : LogsAt w base bl gs logs) (k : ByteArray) : w.ownsRow base 33 5 (logV gs k) (logL gs k).length (cellsL Cm.cells (logL gs k)) := by
  unfold logV logL
  cases e : gs.find? fun x => decide (x.k = k) with
  | none => exact ⟨rfl, .inl ⟨rfl, rfl⟩⟩
  | some x => exact h.own x (List.mem_of_find?_eq_some e)
theorem LogsAt.at_ (h : LogsAt w base bl gs logs) (k : ByteArray) : (∃ x ∈ gs, x.k = k ∧ logV gs k = x.slice) ∨ (logV gs k = .slice none 0 0 ∧ ∀ x ∈ gs, x.k ≠ k) := by
  unfold logV
  cases e : gs.find? fun x => decide (x.k = k) with
  | none =>
    refine .inr ⟨rfl, fun x hx => ?_⟩
    have := List.find?_eq_none.1 e x hx
    simpa using this
  | some x => exact .inl ⟨x, List.mem_of_find?_eq_some e, by simpa using List.find?_some e, rfl⟩
theorem LogsAt.look (h : LogsAt w base bl gs logs) (k : ByteArray) (hk : k.size ≤ 9223372036854775807) :
    (Instr.lookup 68 (.map (some bl)) (.string k) false).run Try.prog w = .ok (logV gs k) w := by
  obtain ⟨kl, hkl⟩ := str_key k hk
  rw [h.map.look str_law Try.underlying68 (zero_log w) hkl false, getP_logs]
  rfl

/-- A command behind a key's log: it was appended, and laid. -/
theorem LogsAt.step {wa wb : World} (h : LogsAt w base bl gs logs) (hn : (logs.map (·.1)).Nodup) (x : Cm) {v' : Value} (hbase : base ≤ w.heap.size)
    (ha : wa.ownsRow base 33 5 v' ((logL gs x.k).length + 1) (cellsL Cm.cells (logL gs x.k ++ [x]))) (hg1 : w.grownBy wa (logV gs x.k).ownBlock)
    (hat : v'.ownBlock = (logV gs x.k).ownBlock ∨ v'.ownBlock = some w.heap.size)
    (hm : MapIs Try.prog 9 wb bl (putP (.string x.k) v' (gs.map Lg.entry))) (hg2 : wa.grownBy wb (some bl)) :
    ∃ gs', LogsAt wb base bl gs' (stepG logs x) ∧ ∀ y ∈ gs', (∃ z ∈ gs, z.g = y.g) ∨ y.g = w.heap.size := by
  obtain ⟨g', cap', hv', _, hlt'⟩ := ha.form (by omega)
  subst hv'
  have hbl : some bl ≠ (logV gs x.k).ownBlock := own_map_ne (h.own_of x.k) h.map
  have hma : MapIs Try.prog 9 wa bl (gs.map Lg.entry) := h.map.grown hg1 hbl
  have hne' : some bl ≠ some g' := own_map_ne ha hma
  have hk := h.keys
  have hkn : (gs.map (·.k)).Nodup := by rw [hk]; exact hn
  have hgat : (∃ z ∈ gs, z.k = x.k ∧ z.g = g') ∨ ((∀ z ∈ gs, z.g ≠ g') ∧ g' = w.heap.size) := by
    rcases hat with hat | hat
    · rcases h.at_ x.k with ⟨z, hz, h1, h2⟩ | ⟨h2, _⟩
      · rw [h2] at hat
        injection hat with e
        exact .inl ⟨z, hz, h1, e.symm⟩
      · rw [h2] at hat
        cases hat
    · injection hat with e
      subst e
      refine .inr ⟨fun z hz e => ?_, rfl⟩
      have := ((h.own z hz).lt z.g rfl).2
      omega
  have hother : ∀ z ∈ gs, z.k ≠ x.k → z.g ≠ g' := by
    intro z hz hzk e
    rcases hgat with ⟨u, hu, h1, h2⟩ | ⟨h1, _⟩
    · have huz : u.g = z.g := by rw [h2, e]
      have : u = z := inj_nodup _ h.nodup u hu z hz huz
      rw [this] at h1
      exact hzk h1
    · exact h1 z hz e
  have hother2 : ∀ z ∈ gs, z.k ≠ x.k → z.slice.ownBlock ≠ (logV gs x.k).ownBlock := by
    intro z hz hzk e
    rcases h.at_ x.k with ⟨u, hu, h1, h2⟩ | ⟨h2, _⟩
    · rw [h2] at e
      injection e with e
      have : u = z := inj_nodup _ h.nodup u hu z hz e.symm
      rw [this] at h1
      exact hzk h1
    · rw [h2] at e
      cases e
  refine ⟨putLg ⟨x.k, logL gs x.k ++ [x], g', cap'⟩ gs, ⟨?_, ?_, fun y hy => ?_, fun y hy => ?_, ?_⟩, fun y hy => ?_⟩
  · rw [putLg_logs, h.eq, stepG, ← h.eq, logL_get]
  · rw [← putLg_entry]
    have : (⟨x.k, logL gs x.k ++ [x], g', cap'⟩ : Lg).slice = .slice (some ⟨g', 0, none⟩) ((logL gs x.k).length + 1) cap' := by simp [Lg.slice]
    rw [this]
    exact hm
  · rcases putLg_mem hkn y hy with rfl | ⟨h1, h2⟩
    · have : (⟨x.k, logL gs x.k ++ [x], g', cap'⟩ : Lg).slice = .slice (some ⟨g', 0, none⟩) ((logL gs x.k).length + 1) cap' := by simp [Lg.slice]
      rw [this]
      simp only [List.length_append, List.length_singleton]
      exact own_grown ha hg2 (.inr fun e => hne' e.symm)
    · refine own_grown (own_grown (h.own y h1) hg1 (.inr (hother2 y h1 h2))) hg2 (.inr fun e => ?_)
      exact own_map_ne (h.own y h1) h.map e.symm
  · rcases putLg_mem hkn y hy with rfl | ⟨h1, _⟩
    · simp
    · exact h.ne y h1
  · exact putLg_nodup hkn h.nodup hother
  · rcases putLg_mem hkn y hy with rfl | ⟨h1, _⟩
    · rcases hgat with ⟨z, hz, _, h2⟩ | ⟨_, h2⟩
      · exact .inl ⟨z, hz, h2⟩
      · exact .inr h2
    · exact .inl ⟨y, h1, rfl⟩
end

end Go.Proofs.Ytfcaneofkdaicaa
