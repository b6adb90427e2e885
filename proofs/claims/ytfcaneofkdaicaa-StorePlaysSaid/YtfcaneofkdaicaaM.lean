/-
  Maps of the call's own, by their entries in the order in which they were laid: read, written, struck, gone through. It holds of every program.
-/
import Derived.Test.YtfcaneofkdaicaaK
import Derived.Maps.RangeWalk
namespace Go.Proofs.Ytfcaneofkdaicaa
open Go.RowKit Go.ChangeMaps Go.MapKept
open Go.Maps (Keyed)

def pairs (es : Array MapEntry) : List (Value × Value) := es.toList.map fun e => (e.key, e.val)

/-- Block b is a map with the entries m, in the order in which they were laid. -/
def MapIs (P : Program) (k : TypeId) (w : World) (b : Nat) (m : List (Value × Value)) : Prop :=
  ∃ es clock, w.heap[b]? = some (.map es clock) ∧ pairs es = m ∧ (∀ e ∈ es.toList, ∃ l, keyOf P k e.key = some l) ∧ Stamped es clock

section
variable {P : Program} {k : TypeId} {w w' : World} {b : Nat} {m : List (Value × Value)}

theorem MapIs.lt (h : MapIs P k w b m) : b < w.heap.size := by
  obtain ⟨es, clock, hb, _⟩ := h
  exact (Array.getElem?_eq_some_iff.1 hb).1
theorem MapIs.same (h : MapIs P k w b m) (hb : w'.heap[b]? = w.heap[b]?) : MapIs P k w' b m := by
  obtain ⟨es, clock, h1, h2⟩ := h
  exact ⟨es, clock, hb.trans h1, h2⟩
theorem MapIs.grown {row : Option Nat} (h : MapIs P k w b m) (hg : w.grownBy w' row) (hne : some b ≠ row) : MapIs P k w' b m := h.same (hg.block b h.lt hne)
theorem MapIs.below {B : Nat} (h : MapIs P k w b m) (hg : Below B w w') (hb : b < B) : MapIs P k w' b m := h.same (hg.block b hb)
theorem MapIs.drewN (h : MapIs P k w b m) (n : Nat) : MapIs P k (w.drewN n) b m := h
theorem MapIs.alloc (h : MapIs P k w b m) (o : Obj) : MapIs P k (w.alloc o) b m := h.same ((MapKept.heap_alloc w o).2 b h.lt)
theorem MapIs.setCell (h : MapIs P k w b m) {p : Addr} (hp : b ≠ p.block) (u : Value) : MapIs P k (w.setCell p u) b m := h.same (Below.heap_setCell w p u b hp)
theorem MapIs.made (P : Program) (k : TypeId) (w : World) : MapIs P k (w.alloc (.map #[] 0)) w.heap.size [] :=
  ⟨#[], 0, (MapKept.heap_alloc w _).1, rfl, by simp, stamped_empty 0⟩
theorem MapIs.ne_blk {g : Nat} {t : TypeId} {cs : Array Value} (h : MapIs P k w b m) (hg : Blk w g t cs) : b ≠ g := by
  rintro rfl
  obtain ⟨es, clock, h1, _⟩ := h
  unfold Blk at hg
  rw [h1] at hg
  cases hg
theorem MapIs.keys (h : MapIs P k w b m) : (m.map (·.1)).Nodup := by
  obtain ⟨es, clock, _, rfl, _, hst⟩ := h
  have := ((stamped_iff es clock).1 hst).2.2
  unfold pairs
  rw [List.map_map]
  rw [List.nodup_iff_pairwise_ne, List.pairwise_map]
  exact this

/-- Lay (key, val) among the entries: in the key's place, or behind all. -/
noncomputable def putP (key val : Value) : List (Value × Value) → List (Value × Value)
  | [] => [(key, val)]
  | x :: r => open Classical in if x.1 = key then (key, val) :: r else x :: putP key val r

theorem putP_none {key val : Value} : ∀ {m : List (Value × Value)}, (∀ x ∈ m, x.1 ≠ key) → putP key val m = m ++ [(key, val)]
  | [], _ => rfl
  | x :: r, h => by rw [putP, if_neg (h x List.mem_cons_self), putP_none fun y hy => h y (List.mem_cons_of_mem _ hy)]; rfl
theorem putP_some {key val : Value} : ∀ {m : List (Value × Value)} {j : Nat} {x : Value × Value}, (m.map (·.1)).Nodup → m[j]? = some x → x.1 = key → putP key val m = m.set j (key, val)
  | [], j, x, _, h, _ => by simp at h
  | y :: r, 0, x, _, h, e => by
    simp only [List.getElem?_cons_zero, Option.some.injEq] at h
    subst h
    rw [putP, if_pos e]
    rfl
  | y :: r, j + 1, x, hn, h, e => by
    rw [List.map_cons, List.nodup_cons] at hn
    simp only [List.getElem?_cons_succ] at h
    have hne : y.1 ≠ key := fun e2 => hn.1 (by rw [e2, ← e]; exact List.mem_map.2 ⟨x, List.mem_of_getElem? h, rfl⟩)
    rw [putP, if_neg hne, putP_some hn.2 h e]
    rfl

noncomputable def getP (key : Value) (m : List (Value × Value)) : Option Value := open Classical in (m.find? fun x => x.1 = key).map (·.2)
noncomputable def delP (key : Value) (m : List (Value × Value)) : List (Value × Value) := open Classical in m.filter fun x => x.1 ≠ key

theorem getP_none {key : Value} {m : List (Value × Value)} (h : ∀ x ∈ m, x.1 ≠ key) : getP key m = none := by
  classical
  unfold getP
  rw [List.find?_eq_none.2 (by simpa using h)]
  rfl
theorem getP_some {key : Value} {m : List (Value × Value)} {x : Value × Value} (hn : (m.map (·.1)).Nodup) (h : x ∈ m) (e : x.1 = key) : getP key m = some x.2 := by
  classical
  unfold getP
  induction m with
  | nil => simp at h
  | cons y r ih =>
    rw [List.map_cons, List.nodup_cons] at hn
    rw [List.find?_cons]
    by_cases hy : y.1 = key
    · have : x = y := by
        rcases List.mem_cons.1 h with h | h
        · exact h
        · exact absurd (show y.1 ∈ r.map (·.1) from by rw [hy, ← e]; exact List.mem_map.2 ⟨x, h, rfl⟩) hn.1
      subst this
      simp [hy]
    · simp only [hy, decide_false]
      refine ih hn.2 ?_
      rcases List.mem_cons.1 h with h | h
      · exact absurd (h ▸ e) hy
      · exact h

theorem find_pairs (K : Keyed P k) {es : Array MapEntry} (hk : ∀ e ∈ es.toList, ∃ l, keyOf P k e.key = some l) {key : Value} {kl : Lit} (hkey : keyOf P k key = some kl) (w : World) :
    ((Instr.findKey k key es.toList).run P w = .ok none w ∧ ∀ x ∈ pairs es, x.1 ≠ key) ∨
    ∃ j e, (Instr.findKey k key es.toList).run P w = .ok (some (j, e.val)) w ∧ es.toList[j]? = some e ∧ e.key = key := by
  rcases K.find w hkey es.toList hk with ⟨h1, h2⟩ | ⟨j, e, h1, h2, h3⟩
  · refine .inl ⟨h1, fun x hx => ?_⟩
    obtain ⟨e, he, rfl⟩ := List.mem_map.1 hx
    exact h2 e he
  · exact .inr ⟨j, e, h1, h2, h3⟩

/-- 'v, ok := m[k]'. -/
theorem MapIs.look {t e : TypeId} (h : MapIs P k w b m) (K : Keyed P k) (ht : P.underlying t = some (.map k e)) {z : Value} (hz : (zeroValue e).run P w = .ok z w) {key : Value} {kl : Lit} (hkey : keyOf P k key = some kl) (c : Bool) :
    (Instr.lookup t (.map (some b)) key c).run P w = .ok (if c then .tuple #[(getP key m).getD z, .bool (getP key m).isSome] else (getP key m).getD z) w := by
  have hn := h.keys
  obtain ⟨es, clock, hb, rfl, hk, hst⟩ := h
  rcases find_pairs K hk hkey w with ⟨h1, h2⟩ | ⟨j, e0, h1, h2, h3⟩
  · rw [getP_none h2]
    simp [Instr.lookup, run_underlying ht, MapKept.run_getObj_map hb, K.check w _ hkey, h1, hz, Result.andThen]
  · rw [getP_some hn (x := (e0.key, e0.val)) (List.mem_map.2 ⟨e0, List.mem_of_getElem? h2, rfl⟩) h3]
    simp [Instr.lookup, run_underlying ht, MapKept.run_getObj_map hb, K.check w _ hkey, h1, Result.andThen]

/-- 'm[k] = v'. -/
theorem MapIs.put {t e : TypeId} (h : MapIs P k w b m) (K : Keyed P k) (ht : P.underlying t = some (.map k e)) {key val : Value} {kl : Lit} (hkey : keyOf P k key = some kl) :
    ∃ w', (Instr.mapUpdate t (.map (some b)) key val).run P w = .ok () w' ∧ MapIs P k w' b (putP key val m) ∧ w.grownBy w' (some b) ∧ w'.heap.size = w.heap.size := by
  have hn := h.keys
  obtain ⟨es, clock, hb, rfl, hk, hst⟩ := h
  have hgr : ∀ o, w.grownBy (setBlock w b o) (some b) := fun o => ⟨rfl, rfl, rfl, by simp [setBlock], fun i _ hi => heap_setBlock_other hb _ (fun e => hi (by rw [e]))⟩
  rcases find_pairs K hk hkey w with ⟨h1, h2⟩ | ⟨j, e0, h1, h2, h3⟩
  · refine ⟨setBlock w b (.map (es.push ⟨key, val, clock⟩) (clock + 1)), ?_, ⟨_, _, heap_setBlock_same hb _, ?_, ?_, stamped_push hst fun x hx => h2 (x.key, x.val) (List.mem_map.2 ⟨x, hx, rfl⟩)⟩, hgr _, by simp [setBlock]⟩
    · simp [Instr.mapUpdate, run_underlying ht, MapKept.run_getObj_map hb, K.check w false hkey, h1, MapKept.run_setObj_map _ hb, Result.andThen, setBlock]
    · rw [putP_none h2]
      simp [pairs]
    · intro x hx
      simp only [Array.toList_push, List.mem_append, List.mem_singleton] at hx
      rcases hx with hx | rfl
      · exact hk x hx
      · exact ⟨kl, hkey⟩
  · have hj : es[j]? = some e0 := by simpa using h2
    have hjl : j < es.toList.length := (List.getElem?_eq_some_iff.1 h2).1
    have hlist : (es.modify j (fun e' => { e' with key := key, val := val })).toList = es.toList.set j { e0 with key := key, val := val } := by rw [Array.toList_modify, modify_eq_set _ _ _ _ h2]
    refine ⟨setBlock w b (.map (es.modify j (fun e' => { e' with key := key, val := val })) clock), ?_, ⟨_, _, heap_setBlock_same hb _, ?_, ?_,
      stamped_modify hst _ _ (fun _ _ => rfl) (fun e' _ he' => by rw [hj] at he'; cases he'; exact h3.symm)⟩, hgr _, by simp [setBlock]⟩
    · simp [Instr.mapUpdate, run_underlying ht, MapKept.run_getObj_map hb, K.check w false hkey, h1, hj, h3, K.stays w hkey, MapKept.run_setObj_map _ hb, Result.andThen, setBlock]
    · have h2p : (pairs es)[j]? = some (e0.key, e0.val) := by simp [pairs, h2]
      rw [putP_some hn h2p h3]
      unfold pairs
      rw [hlist, List.map_set]
    · intro x hx
      rw [hlist] at hx
      rcases List.mem_or_eq_of_mem_set hx with hx | rfl
      · exact hk x hx
      · exact ⟨kl, hkey⟩

theorem pairs_erase {es : Array MapEntry} {j : Nat} {e0 : MapEntry} {key : Value} (hn : ((pairs es).map (·.1)).Nodup) (h2 : es.toList[j]? = some e0) (h3 : e0.key = key) : (pairs es).eraseIdx j = delP key (pairs es) := by
  classical
  have h2p : (pairs es)[j]? = some (e0.key, e0.val) := by simp [pairs, h2]
  revert h2p
  generalize pairs es = m at hn ⊢
  generalize hx : (e0.key, e0.val) = x
  have hxk : x.1 = key := by rw [← hx]; exact h3
  clear hx h2 h3
  intro hj
  unfold delP
  induction m generalizing j with
  | nil => simp at hj
  | cons y r ih =>
    rw [List.map_cons, List.nodup_cons] at hn
    rcases j with _ | j
    · simp only [List.getElem?_cons_zero, Option.some.injEq] at hj
      subst hj
      rw [List.eraseIdx_cons_zero, List.filter_cons_of_neg (by simpa using hxk)]
      refine (List.filter_eq_self.2 fun z hz => ?_).symm
      simp only [ne_eq, decide_not, Bool.not_eq_eq_eq_not, Bool.not_true, decide_eq_false_iff_not]
      exact fun e => hn.1 (by rw [hxk, ← e]; exact List.mem_map.2 ⟨z, hz, rfl⟩)
    · simp only [List.getElem?_cons_succ] at hj
      have hne : y.1 ≠ key := fun e2 => hn.1 (by rw [e2, ← hxk]; exact List.mem_map.2 ⟨x, List.mem_of_getElem? hj, rfl⟩)
      rw [List.eraseIdx_cons_succ, List.filter_cons_of_pos (by simpa using hne), ih hn.2 hj]

/-- 'delete(m, k)'. -/
theorem MapIs.del {t e : TypeId} (h : MapIs P k w b m) (K : Keyed P k) (ht : P.underlying t = some (.map k e)) {key : Value} {kl : Lit} (hkey : keyOf P k key = some kl) (ty : TypeId) :
    ∃ w', (Builtin.delete_ #[t, k] ty #[.map (some b), key]).run P w = .ok (.tuple #[]) w' ∧ MapIs P k w' b (delP key m) ∧ w.grownBy w' (some b) ∧ w'.heap.size = w.heap.size := by
  classical
  have hn := h.keys
  obtain ⟨es, clock, hb, rfl, hk, hst⟩ := h
  have hgr : ∀ o, w.grownBy (setBlock w b o) (some b) := fun o => ⟨rfl, rfl, rfl, by simp [setBlock], fun i _ hi => heap_setBlock_other hb _ (fun e => hi (by rw [e]))⟩
  rcases find_pairs K hk hkey w with ⟨h1, h2⟩ | ⟨j, e0, h1, h2, h3⟩
  · refine ⟨setBlock w b (.map es clock), ?_, ⟨es, clock, heap_setBlock_same hb _, ?_, hk, hst⟩, hgr _, by simp [setBlock]⟩
    · simp [Builtin.delete_, run_underlying ht, MapKept.run_getObj_map hb, K.check w _ hkey, h1, MapKept.run_setObj_map _ hb, Result.andThen, setBlock]
    · unfold delP
      exact (List.filter_eq_self.2 fun z hz => by simpa using h2 z hz).symm
  · have hjl : j < es.toList.length := (List.getElem?_eq_some_iff.1 h2).1
    have hjs : j < es.size := by simpa using hjl
    have hsub : (es.eraseIdxIfInBounds j).toList = es.toList.eraseIdx j := by
      unfold Array.eraseIdxIfInBounds
      rw [dif_pos hjs]
      simp
    refine ⟨setBlock w b (.map (es.eraseIdxIfInBounds j) clock), ?_, ⟨_, _, heap_setBlock_same hb _, ?_, fun x hx => ?_, stamped_erase hst j⟩, hgr _, by simp [setBlock]⟩
    · simp [Builtin.delete_, run_underlying ht, MapKept.run_getObj_map hb, K.check w _ hkey, h1, MapKept.run_setObj_map _ hb, Result.andThen, setBlock]
    · rw [← pairs_erase hn h2 h3]
      unfold pairs
      rw [hsub, map_eraseIdx]
    · rw [hsub] at hx
      exact hk x ((List.eraseIdx_sublist _ _).subset hx)

/-- 'len(m)'. -/
theorem MapIs.size (h : MapIs P k w b m) : ∃ es clock, w.heap[b]? = some (.map es clock) ∧ es.size = m.length := by
  obtain ⟨es, clock, hb, rfl, _⟩ := h
  exact ⟨es, clock, hb, by simp [pairs]⟩

/-- 'for k, v := range m' under way: 'left' is still to come, in some order. -/
def Ranging (P : Program) (k : TypeId) (w : World) (b r : Nat) (m left : List (Value × Value)) : Prop :=
  ∃ es clock since seen c0, w.heap[b]? = some (.map es clock) ∧ pairs es = m ∧ (∀ e ∈ es.toList, ∃ l, keyOf P k e.key = some l) ∧ Stamped es clock ∧
    w.heap[r]? = some (.mapIter (some b) since seen c0) ∧ (∀ x ∈ es.toList, x.born < since) ∧ left.Perm (pairs (leftOf es seen)) ∧ since ≤ c0 ∧ since ≤ clock

theorem Ranging.map {r : Nat} {left : List (Value × Value)} (h : Ranging P k w b r m left) : MapIs P k w b m := by
  obtain ⟨es, clock, _, _, _, h1, h2, h3, h4, _⟩ := h
  exact ⟨es, clock, h1, h2, h3, h4⟩
theorem Ranging.lt {r : Nat} {left : List (Value × Value)} (h : Ranging P k w b r m left) : r < w.heap.size := by
  obtain ⟨es, clock, since, seen, c0, _, _, _, _, hr, _⟩ := h
  exact (Array.getElem?_eq_some_iff.1 hr).1
theorem Ranging.same {r : Nat} {left : List (Value × Value)} (h : Ranging P k w b r m left) (hb : w'.heap[b]? = w.heap[b]?) (hr : w'.heap[r]? = w.heap[r]?) : Ranging P k w' b r m left := by
  obtain ⟨es, clock, since, seen, c0, h1, h2, h3, h4, h5, rest⟩ := h
  exact ⟨es, clock, since, seen, c0, hb.trans h1, h2, h3, h4, hr.trans h5, rest⟩
theorem Ranging.grown {r : Nat} {left : List (Value × Value)} {row : Option Nat} (h : Ranging P k w b r m left) (hg : w.grownBy w' row) (h1 : some b ≠ row) (h2 : some r ≠ row) : Ranging P k w' b r m left :=
  h.same (hg.block b h.map.lt h1) (hg.block r h.lt h2)
theorem Ranging.alloc {r : Nat} {left : List (Value × Value)} (h : Ranging P k w b r m left) (o : Obj) : Ranging P k (w.alloc o) b r m left :=
  h.same ((MapKept.heap_alloc w o).2 b h.map.lt) ((MapKept.heap_alloc w o).2 r h.lt)

theorem MapIs.range {t e : TypeId} (h : MapIs P k w b m) (ht : P.underlying t = some (.map k e)) :
    ∃ w', (Instr.range t (.map (some b))).run P w = .ok (.pointer (some ⟨w.heap.size, 0, none⟩)) w' ∧ Ranging P k w' b w.heap.size m m ∧ Below w.heap.size w w' ∧ w'.heap.size = w.heap.size + 1 := by
  have hlt := h.lt
  obtain ⟨es, clock, hb, rfl, hk, hst⟩ := h
  refine ⟨_, run_range_map w t k e b es clock ht hb, ⟨es, clock, clock, #[], clock, ((MapKept.heap_alloc w _).2 b hlt).trans hb, rfl, hk, hst, (MapKept.heap_alloc w _).1, hst.1, ?_, Nat.le_refl _, Nat.le_refl _⟩, (Below.refl _ _).alloc (Nat.le_refl _) _, by simp⟩
  have : leftOf es #[] = es := by simp [leftOf]
  rw [this]

theorem nodup_of_map {α β : Type} (f : α → β) : ∀ {l : List α}, (l.map f).Nodup → l.Nodup
  | [], _ => List.nodup_nil
  | x :: r, h => by
    rw [List.map_cons, List.nodup_cons] at h
    exact List.nodup_cons.2 ⟨fun hx => h.1 (List.mem_map.2 ⟨x, hx, rfl⟩), nodup_of_map f h.2⟩

theorem left_perm {es : Array MapEntry} {clock : Nat} (hst : Stamped es clock) (seen : Array Nat) {e : MapEntry} (he : e ∈ (leftOf es seen).toList) : (pairs (leftOf es seen)).Perm ((e.key, e.val) :: pairs (leftOf es (seen.push e.born))) := by
  classical
  obtain ⟨_, hborn, _⟩ := (stamped_iff es clock).1 hst
  have hf : (leftOf es (seen.push e.born)).toList = (leftOf es seen).toList.filter fun x => x.born != e.born := by
    unfold leftOf
    simp only [Array.toList_filter, List.filter_filter]
    refine List.filter_congr fun x _ => ?_
    rw [contains_push]
    cases seen.contains x.born <;> simp [bne]
  have hn : ((leftOf es seen).toList.map (·.born)).Nodup := by
    unfold leftOf
    rw [Array.toList_filter]
    exact (List.Sublist.map _ List.filter_sublist).nodup hborn
  unfold pairs
  rw [hf]
  generalize (leftOf es seen).toList = L at he hn
  induction L with
  | nil => simp at he
  | cons y r ih =>
    rw [List.map_cons, List.nodup_cons] at hn
    rcases List.mem_cons.1 he with rfl | he'
    · have : (e :: r).filter (fun x => x.born != e.born) = r := by
        rw [List.filter_cons_of_neg (by simp)]
        refine List.filter_eq_self.2 fun z hz => ?_
        simp only [bne_iff_ne, ne_eq]
        exact fun eq => hn.1 (by rw [← eq]; exact List.mem_map.2 ⟨z, hz, rfl⟩)
      rw [this]
      exact List.Perm.refl _
    · have hne : y.born ≠ e.born := fun eq => hn.1 (by rw [eq]; exact List.mem_map.2 ⟨e, he', rfl⟩)
      rw [List.filter_cons_of_pos (by simpa using hne), List.map_cons, List.map_cons]
      exact ((ih he' hn.2).cons _).trans (List.Perm.swap _ _ _)

theorem Ranging.next {r : Nat} {left : List (Value × Value)} (h : Ranging P k w b r m left) (ty : TypeId) :
    (left = [] ∧ (Instr.next (.pointer (some ⟨r, 0, none⟩)) false ty).run P w = .ok (.tuple #[.bool false]) w) ∨
    ∃ key val left' w', (Instr.next (.pointer (some ⟨r, 0, none⟩)) false ty).run P w = .ok (.tuple #[.bool true, key, val]) w' ∧ left.Perm ((key, val) :: left') ∧ Ranging P k w' b r m left' ∧ w.grownBy w' (some r) ∧ w'.heap.size = w.heap.size ∧
      (Instr.entry (.pointer (some ⟨r, 0, none⟩))).run P w' = .ok (.tuple #[key, val]) w' := by
  obtain ⟨es, clock, since, seen, c0, hb, rfl, hk, hst, hr, hold, hl, hsc, hsk⟩ := h
  have hne : r ≠ b := by
    intro e
    rw [e, hb] at hr
    cases hr
  rcases run_next_at (P := P) w ty r b since c0 seen es clock hr hb hold hsc with ⟨h0, hrun⟩ | ⟨e, he, w1, hal, hrun⟩
  · refine .inl ⟨?_, hrun⟩
    have : (leftOf es seen).toList = [] := List.eq_nil_of_length_eq_zero (by simpa using h0)
    unfold pairs at hl
    rw [this] at hl
    exact hl.eq_nil
  · obtain ⟨hem, _⟩ := mem_left he
    have hr1 : w1.heap[r]? = some (.mapIter (some b) since seen c0) := by rcases hal with rfl | rfl <;> exact hr
    have hb1 : w1.heap[b]? = some (.map es clock) := by rcases hal with rfl | rfl <;> exact hb
    have hset := heap_set (o' := .mapIter (some b) since (seen.push e.born) clock) hr1
    have hb' : (setBlock w1 r (.mapIter (some b) since (seen.push e.born) clock)).heap[b]? = some (.map es clock) := (hset.2 b (fun e1 => hne e1.symm)).trans hb1
    refine .inr ⟨e.key, e.val, _, _, hrun, hl.trans (left_perm hst seen he), ⟨es, clock, since, seen.push e.born, clock, hb', rfl, hk, hst, hset.1, hold, List.Perm.refl _, hsk, hsk⟩, ?_, ?_,
      run_entry_at _ r b since seen es clock e hset.1 hb' hem ((stamped_iff es clock).1 hst).2.1⟩
    · rcases hal with rfl | rfl <;> exact ⟨rfl, rfl, rfl, by simp [setBlock], fun i _ hi => hset.2 i (fun e1 => hi (by rw [e1]))⟩
    · rcases hal with rfl | rfl <;> simp [setBlock]
end

section
variable {P : Program} (w : World) {ops : Array Oper} {rest : List Oper} {o : Oper} {a : Act} {Q : Exit → Act → World → Prop} {k e : TypeId} {b : Nat} {m : List (Value × Value)}

/-- 'm[k] = v' at the operation. -/
theorem wpList_put_map (hg : o.guard = none) (mo x v : Operand) (t : TypeId) (hop : o.op = Op.mapUpdate t mo x v) (K : Keyed P k) (ht : P.underlying t = some (.map k e))
    (hm : a.eval mo = .map (some b)) (hown : MapIs P k w b m) (key val : Value) (kl : Lit) (hx : a.eval x = key) (hv : a.eval v = val) (hkey : keyOf P k key = some kl)
    (hK : ∀ w', MapIs P k w' b (putP key val m) → w.grownBy w' (some b) → w'.heap.size = w.heap.size → wpList P ops Q rest (a.put o.dst undef) w') : wpList P ops Q (o :: rest) a w := by
  refine wpList_plain hg fun K' hK' => ?_
  obtain ⟨w', hrun, r1, r2, r3⟩ := hown.put (val := val) K ht hkey
  unfold Oper.wp
  simp [execOp, hop, hm, hx, hv, hrun, Result.andThen]
  exact hK' _ _ (hK w' r1 r2 r3)

/-- 'delete(m, k)' at the operation. -/
theorem wpList_del_map (hg : o.guard = none) (mo x : Operand) (t : TypeId) (hop : o.op = Op.call { callee := Callee.builtin Builtin.delete, args := #[mo, x], argTypes := #[t, k] }) (K : Keyed P k) (ht : P.underlying t = some (.map k e))
    (hm : a.eval mo = .map (some b)) (hown : MapIs P k w b m) (key : Value) (kl : Lit) (hx : a.eval x = key) (hkey : keyOf P k key = some kl)
    (hK : ∀ w', MapIs P k w' b (delP key m) → w.grownBy w' (some b) → w'.heap.size = w.heap.size → wpList P ops Q rest (a.put o.dst (.tuple #[])) w') : wpList P ops Q (o :: rest) a w := by
  refine wpList_plain hg fun K' hK' => ?_
  obtain ⟨w', hrun, r1, r2, r3⟩ := hown.del K ht hkey o.type
  unfold Oper.wp
  simp [execOp, hop, resolve, invoke, builtin, hm, hx, hrun, Result.andThen]
  exact hK' _ _ (hK w' r1 r2 r3)

theorem wpList_range_map (hg : o.guard = none) (mo : Operand) (t : TypeId) (hop : o.op = Op.range t mo) (ht : P.underlying t = some (.map k e)) (hm : a.eval mo = .map (some b)) (hown : MapIs P k w b m)
    (hK : ∀ w', Ranging P k w' b w.heap.size m m → Below w.heap.size w w' → w'.heap.size = w.heap.size + 1 → wpList P ops Q rest (a.put o.dst (.pointer (some ⟨w.heap.size, 0, none⟩))) w') : wpList P ops Q (o :: rest) a w := by
  refine wpList_plain hg fun K' hK' => ?_
  obtain ⟨w', hrun, r1, r2, r3⟩ := hown.range ht
  unfold Oper.wp
  simp [execOp, hop, hm, hrun, Result.andThen]
  exact hK' _ _ (hK w' r1 r2 r3)

theorem wpList_next_map (hg : o.guard = none) (it : Operand) (hop : o.op = Op.next it false) (r : Nat) (left : List (Value × Value)) (hit : a.eval it = .pointer (some ⟨r, 0, none⟩)) (h : Ranging P k w b r m left)
    (hDone : left = [] → wpList P ops Q rest (a.put o.dst (.tuple #[.bool false])) w)
    (hMore : ∀ key val left' w', left.Perm ((key, val) :: left') → Ranging P k w' b r m left' → w.grownBy w' (some r) → w'.heap.size = w.heap.size →
      (Instr.entry (.pointer (some ⟨r, 0, none⟩))).run P w' = .ok (.tuple #[key, val]) w' → wpList P ops Q rest (a.put o.dst (.tuple #[.bool true, key, val])) w') : wpList P ops Q (o :: rest) a w := by
  refine wpList_plain hg fun K' hK' => ?_
  unfold Oper.wp
  rcases h.next o.type with ⟨h0, hrun⟩ | ⟨key, val, left', w', hrun, h1, h2, h3, h4, h5⟩
  · simp [execOp, hop, hit, hrun, Result.andThen]
    exact hK' _ _ (hDone h0)
  · simp [execOp, hop, hit, hrun, Result.andThen]
    exact hK' _ _ (hMore key val left' w' h1 h2 h3 h4 h5)
end

end Go.Proofs.Ytfcaneofkdaicaa
