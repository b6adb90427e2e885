/-
  Chapter 16, plain: the keys told in order; the text of them.
-/
import Derived.Test.YtfcaneofkdaicaaW16
namespace Go.Proofs.Ytfcaneofkdaicaa
open Go.RowKit Go.Sort Go.Maps Go.Shelf

theorem join_snoc (x sep : List UInt8) : ∀ l : List (List UInt8), Lib.join (l ++ [x]) sep = if l = [] then x else Lib.join l sep ++ sep ++ x
  | [] => by rw [if_pos rfl]; exact Lib.join_one x sep
  | y :: r => by
    rw [if_neg (by simp), List.cons_append, Lib.join_cons, Lib.join_cons]
    unfold Lib.joinTail
    simp [List.append_assoc]
/-- The text of the first keys. -/
def textN (acc : List Cm) (i : Nat) : List UInt8 := Lib.join (((keysOf acc).take i).map (pairT acc)) [59]
theorem textN_zero (acc : List Cm) : textN acc 0 = [] := by unfold textN; rw [List.take_zero]; rfl
theorem textN_all (acc : List Cm) : textN acc (keysOf acc).length = textOf acc := by unfold textN textOf; rw [List.take_length]
theorem textN_succ (acc : List Cm) {i : Nat} (hi : i < (keysOf acc).length) : textN acc (i + 1) = (if i = 0 then [] else textN acc i ++ [59]) ++ pairT acc ((keysOf acc).getD i []) := by
  unfold textN
  rw [List.take_succ_eq_append_getElem hi, List.map_append, List.map_cons, List.map_nil, join_snoc]
  have hg : (keysOf acc)[i] = (keysOf acc).getD i [] := by simp [List.getD, hi]
  rw [hg]
  by_cases h0 : i = 0
  · subst h0; simp
  · rw [if_neg h0, if_neg]
    intro e
    have := congrArg List.length e
    rw [List.length_map, List.length_take, List.length_nil] at this
    omega
theorem textN_le {acc : List Cm} (h : AccOk acc) (i : Nat) : (textN acc i).length ≤ acc.length * 50 := by
  unfold textN
  have h1 := join_le 49 [59] (((keysOf acc).take i).map (pairT acc)) (fun x hx => by
    obtain ⟨kk, hk, rfl⟩ := List.mem_map.1 hx
    exact pair_le h (List.mem_of_mem_take hk))
  have h2 := keys_len acc
  rw [List.length_map, List.length_take] at h1
  simp only [List.length_singleton] at h1
  have h3 : min i (keysOf acc).length * (49 + 1) ≤ acc.length * 50 := Nat.mul_le_mul (by omega) (Nat.le_refl _)
  omega
theorem key_val {acc : List Cm} {kk : List UInt8} (hk : kk ∈ keysOf acc) : (valOf acc ⟨kk.toArray⟩).isSome = true := by
  unfold keysOf at hk
  rw [List.mem_mergeSort] at hk
  obtain ⟨p, hp, rfl⟩ := List.mem_map.1 hk
  rw [← valsOf_get]
  exact aGet_isSome.2 (List.mem_map.2 ⟨p, hp, rfl⟩)
theorem val_key {acc : List Cm} {k : ByteArray} (h : (valOf acc k).isSome = true) : k.data.toList ∈ keysOf acc := by
  unfold keysOf
  rw [List.mem_mergeSort]
  rw [← valsOf_get] at h
  obtain ⟨p, hp, e⟩ := List.mem_map.1 (aGet_isSome.1 h)
  exact List.mem_map.2 ⟨p, hp, by rw [e]⟩
theorem keys_nodup (acc : List Cm) : (keysOf acc).Nodup := by
  unfold keysOf
  rw [(List.mergeSort_perm _ _).nodup_iff]
  have h := valsOf_nodup acc
  rw [List.nodup_iff_pairwise_ne, List.pairwise_map] at h
  rw [List.nodup_iff_pairwise_ne, List.pairwise_map]
  refine h.imp fun {a b} hab e => hab ?_
  apply ByteArray.ext
  exact Array.toList_inj.1 e
theorem keys_lt {acc : List Cm} {i : Nat} (hi : i + 1 < (keysOf acc).length) : (keysOf acc).getD i [] < (keysOf acc).getD (i + 1) [] := by
  have tr : ∀ a b c : List UInt8, leB a b = true → leB b c = true → leB a c = true := fun a b c h1 h2 => by simp only [leB, decide_eq_true_eq] at *; exact List.le_trans h1 h2
  have tot : ∀ a b : List UInt8, (leB a b || leB b a) = true := fun a b => by simp only [leB, Bool.or_eq_true, decide_eq_true_eq]; exact List.le_total a b
  have hs : (keysOf acc).Pairwise fun a b => leB a b = true := by unfold keysOf; exact List.pairwise_mergeSort tr tot _
  have h1 := (List.pairwise_iff_getElem.1 hs) i (i + 1) (by omega) hi (by omega)
  have hn := keys_nodup acc
  rw [List.nodup_iff_pairwise_ne] at hn
  have h2 := (List.pairwise_iff_getElem.1 hn) i (i + 1) (by omega) hi (by omega)
  have e1 : (keysOf acc).getD i [] = (keysOf acc)[i] := by simp [List.getD, show i < (keysOf acc).length by omega]
  have e2 : (keysOf acc).getD (i + 1) [] = (keysOf acc)[i + 1] := by simp [List.getD, hi]
  rw [e1, e2]
  simp only [leB, decide_eq_true_eq] at h1
  rcases List.le_iff_lt_or_eq.1 h1 with h | h
  · exact h
  · exact absurd h h2

def b2i (b : Bool) : Int := if b then 1 else 0
/-- Of three keys as many are told as have a value. -/
theorem keys_count {acc : List Cm} (hf : ∀ x ∈ acc, few x) : ((keysOf acc).length : Int) = b2i (valOf acc ⟨#[97]⟩).isSome + b2i (valOf acc ⟨#[98]⟩).isSome + b2i (valOf acc ⟨#[99]⟩).isSome := by
  have hp : (keysOf acc).Perm (([⟨#[97]⟩, ⟨#[98]⟩, ⟨#[99]⟩] : List ByteArray).filter (fun k => (valOf acc k).isSome) |>.map (·.data.toList)) := by
    refine (List.perm_ext_iff_of_nodup (keys_nodup acc) ?_).2 fun kk => ?_
    · have h0 : (([⟨#[97]⟩, ⟨#[98]⟩, ⟨#[99]⟩] : List ByteArray).map (·.data.toList)).Nodup := by decide
      exact List.Nodup.sublist (List.Sublist.map _ List.filter_sublist) h0
    · constructor
      · intro h
        have h1 := key_val h
        rw [← valsOf_get] at h1
        obtain ⟨x, hx, e⟩ := vals_keys _ (aGet_isSome.1 h1)
        have h2 := (hf x hx).1
        refine List.mem_map.2 ⟨⟨kk.toArray⟩, List.mem_filter.2 ⟨?_, by rw [← valsOf_get]; exact h1⟩, rfl⟩
        rw [← e]
        unfold isKey at h2
        simpa using h2
      · intro h
        obtain ⟨k, hk, rfl⟩ := List.mem_map.1 h
        exact val_key (List.mem_filter.1 hk).2
  rw [hp.length_eq, List.length_map]
  simp only [List.filter_cons, List.filter_nil]
  cases (valOf acc ⟨#[97]⟩).isSome <;> cases (valOf acc ⟨#[98]⟩).isSome <;> cases (valOf acc ⟨#[99]⟩).isSome <;> rfl

end Go.Proofs.Ytfcaneofkdaicaa
