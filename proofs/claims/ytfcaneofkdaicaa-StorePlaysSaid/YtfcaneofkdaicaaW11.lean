/-
  Chapter 16: Text: walked.
-/
import Derived.Test.YtfcaneofkdaicaaW10
namespace Go.Proofs.Ytfcaneofkdaicaa
open Go.RowKit Go.Sort Go.Maps Go.Shelf

def textOf (acc : List Cm) : List UInt8 := Lib.join ((keysOf acc).map (pairT acc)) [59]

theorem own_slice {w : World} {base size n : Nat} {e : TypeId} {v : Value} {xs : List Value} (h : w.ownsRow base e size v n xs) : ∃ A c, v = .slice A n c ∧ (0 < n → ∃ g, A = some ⟨g, 0, none⟩) := by
  rcases h.2 with ⟨rfl, rfl⟩ | ⟨g, cap, cur, rfl, _⟩
  · exact ⟨none, 0, rfl, fun h => absurd h (by omega)⟩
  · exact ⟨_, cap, rfl, fun _ => ⟨g, rfl⟩⟩

theorem valOf_le {acc : List Cm} (h : AccOk acc) (k : ByteArray) : ((valOf acc k).getD ⟨#[]⟩).size ≤ 32 := by
  have : ∀ r : List Cm, (∀ x ∈ r, okC x = true) → ∀ v, valOf r.reverse k = some v → v.size ≤ 32 := by
    intro r
    induction r with
    | nil => intro _ v hv; cases hv
    | cons x r ih =>
      intro hr v hv
      rw [List.reverse_cons, valOf_snoc] at hv
      unfold stepO at hv
      have hx := of_decide_eq_true (show decide _ = true from hr x List.mem_cons_self)
      split at hv
      · split at hv
        · cases hv; exact hx.2.2.2.2.1
        · split at hv
          · cases hv
          · exact ih (fun y hy => hr y (List.mem_cons_of_mem _ hy)) v hv
      · exact ih (fun y hy => hr y (List.mem_cons_of_mem _ hy)) v hv
  cases hv : valOf acc k with
  | none => simp [ByteArray.size]
  | some v =>
    refine this acc.reverse (fun x hx => h.ok x (List.mem_reverse.1 hx)) v ?_
    rw [List.reverse_reverse]
    exact hv
theorem vals_keys {acc : List Cm} (k : ByteArray) (hk : k ∈ (valsOf acc).map (·.1)) : ∃ x ∈ acc, x.k = k := by
  have h1 : (valOf acc k).isSome = true := by rw [← valsOf_get]; exact aGet_isSome.2 hk
  have : ∀ r : List Cm, (valOf r.reverse k).isSome = true → ∃ x ∈ r, x.k = k := by
    intro r
    induction r with
    | nil => intro h; cases h
    | cons x r ih =>
      intro h
      rw [List.reverse_cons, valOf_snoc] at h
      unfold stepO at h
      split at h
      · rename_i e; exact ⟨x, List.mem_cons_self, e⟩
      · obtain ⟨y, hy, e⟩ := ih h
        exact ⟨y, List.mem_cons_of_mem _ hy, e⟩
  obtain ⟨x, hx, e⟩ := this acc.reverse (by rw [List.reverse_reverse]; exact h1)
  exact ⟨x, List.mem_reverse.1 hx, e⟩
theorem keys_le {acc : List Cm} (h : AccOk acc) {kk : List UInt8} (hk : kk ∈ keysOf acc) : kk.length ≤ 16 := by
  unfold keysOf at hk
  rw [List.mem_mergeSort] at hk
  obtain ⟨p, hp, rfl⟩ := List.mem_map.1 hk
  obtain ⟨x, hx, e⟩ := vals_keys p.1 (List.mem_map.2 ⟨p, hp, rfl⟩)
  have hx := of_decide_eq_true (show decide _ = true from h.ok x hx)
  have := hx.2.2.2.1.2
  rw [e] at this
  simpa using this
theorem keys_len (acc : List Cm) : (keysOf acc).length ≤ acc.length := by
  unfold keysOf
  rw [List.length_mergeSort, List.length_map]
  exact vals_len acc
theorem pair_le {acc : List Cm} (h : AccOk acc) {kk : List UInt8} (hk : kk ∈ keysOf acc) : (pairT acc kk).length ≤ 49 := by
  have h1 := keys_le h hk
  have h2 := valOf_le h ⟨kk.toArray⟩
  unfold pairT
  have h3 : ((valOf acc ⟨kk.toArray⟩).getD ⟨#[]⟩).data.toList.length ≤ 32 := by simpa using h2
  simp only [List.length_append, List.length_cons, List.length_nil]
  omega
theorem join_le (m : Nat) (sep : List UInt8) : ∀ l : List (List UInt8), (∀ x ∈ l, x.length ≤ m) → (Lib.join l sep).length ≤ l.length * (m + sep.length)
  | [], _ => by simp [Lib.join_nil]
  | x :: r, h => by
    rw [Lib.join_cons, List.length_append, Lib.joinTail_length]
    have h1 := h x List.mem_cons_self
    have h2 : Lib.lens r ≤ r.length * m := by
      have : ∀ l : List (List UInt8), (∀ x ∈ l, x.length ≤ m) → Lib.lens l ≤ l.length * m := by
        intro l
        induction l with
        | nil => intro _; simp [Lib.lens]
        | cons y q ih =>
          intro hq
          have a := hq y List.mem_cons_self
          have b := ih fun z hz => hq z (List.mem_cons_of_mem _ hz)
          simp only [Lib.lens, List.map_cons, List.sum_cons, List.length_cons, Nat.add_mul] at b ⊢
          omega
      exact this r fun z hz => h z (List.mem_cons_of_mem _ hz)
    rw [List.length_cons, Nat.add_mul, Nat.mul_add, Nat.mul_comm sep.length]
    omega
theorem text_le {acc : List Cm} (h : AccOk acc) (hlen : acc.length ≤ 1000000) : (textOf acc).length ≤ 50000000 := by
  unfold textOf
  have h1 := join_le 49 [59] ((keysOf acc).map (pairT acc)) (fun x hx => by obtain ⟨kk, hk, rfl⟩ := List.mem_map.1 hx; exact pair_le h hk)
  have h2 := keys_len acc
  rw [List.length_map] at h1
  simp only [List.length_singleton] at h1
  omega

theorem joinExtra : Builder.Extra Try.prog lay_join_ren where
  sizeBuilder := by kernel_rfl
  liesBuilder := by kernel_rfl
  t5 := Try.underlying5
  a5 := Try.isAgg5
  z5 := Try.sizeOf5
  v5 := Try.zeroValue5
  infoByte := by kernel_rfl
  cellsByte := by kernel_rfl
  sizeByte := by kernel_rfl
  neB5 := by decide

theorem str_info : (Try.prog.info? 9).map (fun i => (i.zero, i.size, i.bytes)) = some (some (.string ⟨#[]⟩), 1, 16) := by kernel_rfl

end Go.Proofs.Ytfcaneofkdaicaa
