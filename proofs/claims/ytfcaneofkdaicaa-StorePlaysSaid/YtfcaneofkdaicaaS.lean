/-
  Chapter 16, plain: what a store holds after commands. No program here.
-/
import Derived.Test.YtfcaneofkdaicaaK
import Derived.Sort.KeysCollected
namespace Go.Proofs.Ytfcaneofkdaicaa

section
variable {β : Type}
def aGet (k : ByteArray) (m : List (ByteArray × β)) : Option β := (m.find? fun x => decide (x.1 = k)).map (·.2)
def aPut (k : ByteArray) (v : β) : List (ByteArray × β) → List (ByteArray × β)
  | [] => [(k, v)]
  | x :: r => if x.1 = k then (k, v) :: r else x :: aPut k v r
def aDel (k : ByteArray) (m : List (ByteArray × β)) : List (ByteArray × β) := m.filter fun x => !decide (x.1 = k)

theorem aGet_nil (j : ByteArray) : aGet j ([] : List (ByteArray × β)) = none := rfl
theorem aGet_cons (j : ByteArray) (x : ByteArray × β) (r : List (ByteArray × β)) : aGet j (x :: r) = if x.1 = j then some x.2 else aGet j r := by
  unfold aGet
  rw [List.find?_cons]
  by_cases h : x.1 = j <;> simp [h]
theorem aGet_put (j k : ByteArray) (v : β) : ∀ m : List (ByteArray × β), aGet j (aPut k v m) = if k = j then some v else aGet j m
  | [] => by rw [aPut, aGet_cons]
  | x :: r => by
    rw [aPut]
    by_cases h : x.1 = k
    · rw [if_pos h, aGet_cons, aGet_cons]
      by_cases e : k = j
      · simp [e]
      · simp only [e, if_false]
        rw [if_neg (by rw [h]; exact e)]
    · rw [if_neg h, aGet_cons, aGet_put j k v r, aGet_cons]
      by_cases e : k = j
      · subst e; simp [h]
      · simp only [e, if_false]
theorem aGet_del (j k : ByteArray) : ∀ m : List (ByteArray × β), aGet j (aDel k m) = if k = j then none else aGet j m
  | [] => by simp [aDel, aGet_nil]
  | x :: r => by
    have ih := aGet_del j k r
    unfold aDel at ih ⊢
    rw [List.filter_cons]
    by_cases h : x.1 = k
    · simp only [h, decide_true, Bool.not_true, Bool.false_eq_true, if_false]
      rw [ih, aGet_cons]
      by_cases e : k = j
      · simp [e]
      · rw [if_neg e, if_neg e, if_neg (by rw [h]; exact e)]
    · simp only [h, decide_false, Bool.not_false, if_true]
      rw [aGet_cons, ih, aGet_cons]
      by_cases e : k = j
      · subst e; simp [h]
      · simp only [e, if_false]
theorem aGet_isSome {k : ByteArray} : ∀ {m : List (ByteArray × β)}, (aGet k m).isSome = true ↔ k ∈ m.map (·.1)
  | [] => by simp [aGet_nil]
  | x :: r => by
    rw [aGet_cons, List.map_cons, List.mem_cons]
    by_cases h : x.1 = k
    · simp [h]
    · rw [if_neg h, aGet_isSome]
      constructor
      · exact fun h => .inr h
      · rintro (e | h2)
        · exact absurd e.symm h
        · exact h2
theorem aPut_keys (k : ByteArray) (v : β) : ∀ m : List (ByteArray × β), (k ∈ m.map (·.1) ∧ (aPut k v m).map (·.1) = m.map (·.1)) ∨ (¬ k ∈ m.map (·.1) ∧ (aPut k v m).map (·.1) = m.map (·.1) ++ [k])
  | [] => .inr ⟨by simp, rfl⟩
  | x :: r => by
    rw [aPut]
    by_cases h : x.1 = k
    · rw [if_pos h]; exact .inl ⟨by rw [List.map_cons, h]; exact List.mem_cons_self, by rw [List.map_cons, List.map_cons, h]⟩
    · rw [if_neg h, List.map_cons, List.map_cons]
      rcases aPut_keys k v r with ⟨h1, h2⟩ | ⟨h1, h2⟩
      · exact .inl ⟨List.mem_cons_of_mem _ h1, by rw [h2]⟩
      · refine .inr ⟨fun e => ?_, by rw [h2]; rfl⟩
        rcases List.mem_cons.1 e with e | e
        · exact h e.symm
        · exact h1 e
theorem aPut_nodup (k : ByteArray) (v : β) {m : List (ByteArray × β)} (h : (m.map (·.1)).Nodup) : ((aPut k v m).map (·.1)).Nodup := by
  rcases aPut_keys k v m with ⟨_, h2⟩ | ⟨h1, h2⟩
  · rw [h2]; exact h
  · rw [h2, List.nodup_append]
    exact ⟨h, by simp, by rintro a ha b hb rfl; rw [List.mem_singleton.1 hb] at ha; exact h1 ha⟩
theorem aDel_nodup (k : ByteArray) {m : List (ByteArray × β)} (h : (m.map (·.1)).Nodup) : ((aDel k m).map (·.1)).Nodup :=
  List.Nodup.sublist (List.Sublist.map _ List.filter_sublist) h
end

structure Cm where
  o : Int
  c : Int
  s : Int
  k : ByteArray
  v : ByteArray
structure Rp where
  c : Int
  s : Int
  f : Bool
  v : ByteArray

def Cm.zero : Cm := ⟨0, 0, 0, ⟨#[]⟩, ⟨#[]⟩⟩
def Rp.zero : Rp := ⟨0, 0, false, ⟨#[]⟩⟩

/-- A command that is done, if it is new. -/
def okC (x : Cm) : Bool := decide ((1 ≤ x.o ∧ x.o ≤ 3) ∧ (1 ≤ x.c ∧ x.c ≤ 64) ∧ 1 ≤ x.s ∧ (x.k.size ≠ 0 ∧ x.k.size ≤ 16) ∧ x.v.size ≤ 32 ∧ (x.o = 1 ∨ x.v.size = 0))
def Cm.asks (x : Cm) (c s : Int) : Bool := decide (x.c = c ∧ x.s = s)
def Rp.asks (x : Rp) (c s : Int) : Bool := decide (x.c = c ∧ x.s = s)

def stepV (m : List (ByteArray × ByteArray)) (x : Cm) : List (ByteArray × ByteArray) := if x.o = 1 then aPut x.k x.v m else if x.o = 3 then aDel x.k m else m
def valsOf (acc : List Cm) : List (ByteArray × ByteArray) := acc.foldl stepV []
def stepO (k : ByteArray) (r : Option ByteArray) (x : Cm) : Option ByteArray := if x.k = k then (if x.o = 1 then some x.v else if x.o = 3 then none else r) else r
/-- A key's value. -/
def valOf (acc : List Cm) (k : ByteArray) : Option ByteArray := acc.foldl (stepO k) none
theorem valsOf_snoc (acc : List Cm) (x : Cm) : valsOf (acc ++ [x]) = stepV (valsOf acc) x := by unfold valsOf; rw [List.foldl_append]; rfl
theorem valOf_snoc (acc : List Cm) (x : Cm) (k : ByteArray) : valOf (acc ++ [x]) k = stepO k (valOf acc k) x := by unfold valOf; rw [List.foldl_append]; rfl
theorem stepV_get (m : List (ByteArray × ByteArray)) (x : Cm) (k : ByteArray) : aGet k (stepV m x) = stepO k (aGet k m) x := by
  unfold stepV stepO
  split
  · rw [aGet_put]
  · split
    · rw [aGet_del]
    · split <;> rfl
theorem valsOf_get (acc : List Cm) (k : ByteArray) : aGet k (valsOf acc) = valOf acc k := by
  unfold valsOf valOf
  have : ∀ (l : List Cm) m r, aGet k m = r → aGet k (l.foldl stepV m) = l.foldl (stepO k) r := by
    intro l
    induction l with
    | nil => intro m r h; exact h
    | cons x l ih => intro m r h; exact ih _ _ (by rw [stepV_get, h])
  exact this acc [] none rfl
theorem valsOf_nodup (acc : List Cm) : ((valsOf acc).map (·.1)).Nodup := by
  unfold valsOf
  have : ∀ (l : List Cm) m, (m.map (·.1)).Nodup → ((l.foldl stepV m).map (·.1)).Nodup := by
    intro l
    induction l with
    | nil => intro m h; exact h
    | cons x l ih =>
      intro m h
      refine ih _ ?_
      unfold stepV
      split
      · exact aPut_nodup _ _ h
      · split
        · exact aDel_nodup _ h
        · exact h
  exact this acc [] List.nodup_nil

def stepG (g : List (ByteArray × List Cm)) (x : Cm) : List (ByteArray × List Cm) := aPut x.k ((aGet x.k g).getD [] ++ [x]) g
def logsOf (acc : List Cm) : List (ByteArray × List Cm) := acc.foldl stepG []
/-- What was done of a key. -/
def logOf (acc : List Cm) (k : ByteArray) : List Cm := acc.filter fun x => decide (x.k = k)
theorem logsOf_snoc (acc : List Cm) (x : Cm) : logsOf (acc ++ [x]) = stepG (logsOf acc) x := by unfold logsOf; rw [List.foldl_append]; rfl
theorem logOf_snoc (acc : List Cm) (x : Cm) (k : ByteArray) : logOf (acc ++ [x]) k = if x.k = k then logOf acc k ++ [x] else logOf acc k := by
  unfold logOf
  rw [List.filter_append]
  by_cases h : x.k = k <;> simp [h]
theorem logsOf_get (acc : List Cm) (k : ByteArray) : (aGet k (logsOf acc)).getD [] = logOf acc k := by
  have h : ∀ (r : List Cm), (aGet k (logsOf r.reverse)).getD [] = logOf r.reverse k := by
    intro r
    induction r with
    | nil => rfl
    | cons x r ih =>
      rw [List.reverse_cons, logsOf_snoc, logOf_snoc]
      unfold stepG
      rw [aGet_put]
      split
      · rename_i e; rw [e, ih]; rfl
      · exact ih
  simpa using h acc.reverse
theorem logsOf_nodup (acc : List Cm) : ((logsOf acc).map (·.1)).Nodup := by
  unfold logsOf
  have : ∀ (l : List Cm) m, (m.map (·.1)).Nodup → ((l.foldl stepG m).map (·.1)).Nodup := by
    intro l
    induction l with
    | nil => intro m h; exact h
    | cons x l ih => intro m h; exact ih _ (aPut_nodup _ _ h)
  exact this acc [] List.nodup_nil

/-- What is told of a command behind those that were done. -/
def rep (acc : List Cm) (x : Cm) : Rp := ⟨x.c, x.s, (valOf acc x.k).isSome, (valOf acc x.k).getD ⟨#[]⟩⟩
def repsFrom (pre : List Cm) : List Cm → List Rp
  | [] => []
  | x :: r => rep pre x :: repsFrom (pre ++ [x]) r
def reps (acc : List Cm) : List Rp := repsFrom [] acc
theorem repsFrom_snoc (x : Cm) : ∀ (l pre : List Cm), repsFrom pre (l ++ [x]) = repsFrom pre l ++ [rep (pre ++ l) x]
  | [], pre => by simp [repsFrom]
  | y :: r, pre => by rw [List.cons_append, repsFrom, repsFrom, repsFrom_snoc x r]; simp
theorem reps_snoc (acc : List Cm) (x : Cm) : reps (acc ++ [x]) = reps acc ++ [rep acc x] := by unfold reps; rw [repsFrom_snoc]; rfl
theorem reps_len (acc : List Cm) : (reps acc).length = acc.length := by
  unfold reps
  have : ∀ (l pre : List Cm), (repsFrom pre l).length = l.length := by
    intro l
    induction l with
    | nil => intro _; rfl
    | cons x l ih => intro pre; rw [repsFrom, List.length_cons, ih, List.length_cons]
  exact this acc []
theorem reps_mem {acc : List Cm} {r : Rp} (h : r ∈ reps acc) : ∃ x ∈ acc, r.c = x.c ∧ r.s = x.s := by
  unfold reps at h
  have : ∀ (l pre : List Cm), r ∈ repsFrom pre l → ∃ x ∈ l, r.c = x.c ∧ r.s = x.s := by
    intro l
    induction l with
    | nil => intro _ h; cases h
    | cons x l ih =>
      intro pre h
      rcases List.mem_cons.1 h with rfl | h
      · exact ⟨x, List.mem_cons_self, rfl, rfl⟩
      · obtain ⟨y, hy, e⟩ := ih _ h
        exact ⟨y, List.mem_cons_of_mem _ hy, e⟩
  exact this acc [] h
theorem reps_asks (acc : List Cm) (c s : Int) : (reps acc).any (·.asks c s) = acc.any (·.asks c s) := by
  unfold reps
  have : ∀ (l pre : List Cm), (repsFrom pre l).any (·.asks c s) = l.any (·.asks c s) := by
    intro l
    induction l with
    | nil => intro _; rfl
    | cons x l ih => intro pre; rw [repsFrom, List.any_cons, List.any_cons, ih]; rfl
  exact this acc []

/-- The reply that is known. -/
def knownOf (acc : List Cm) (c s : Int) : Option Rp := (reps acc).find? fun r => r.asks c s
theorem known_some (acc : List Cm) (c s : Int) : (knownOf acc c s).isSome = acc.any (·.asks c s) := by
  unfold knownOf
  rw [← reps_asks]
  induction reps acc with
  | nil => rfl
  | cons x l ih => rw [List.find?_cons, List.any_cons]; cases h : x.asks c s <;> simp [ih]
def newC (acc : List Cm) (x : Cm) : Bool := okC x && !acc.any (·.asks x.c x.s)
/-- What was done, with one more command that comes. -/
def applyC (acc : List Cm) (x : Cm) : List Cm := if newC acc x then acc ++ [x] else acc
def told (acc : List Cm) (x : Cm) : Rp := if newC acc x then rep acc x else Rp.zero

structure AccOk (acc : List Cm) : Prop where
  ok : ∀ x ∈ acc, okC x = true
  one : acc.Pairwise fun x y => ¬ (x.c = y.c ∧ x.s = y.s)
theorem AccOk.nil : AccOk [] := ⟨by simp, .nil⟩
theorem AccOk.apply {acc : List Cm} (h : AccOk acc) (x : Cm) : AccOk (applyC acc x) := by
  unfold applyC
  split
  · rename_i hn
    unfold newC at hn
    rw [Bool.and_eq_true, Bool.not_eq_true', List.any_eq_false] at hn
    refine ⟨fun y hy => ?_, ?_⟩
    · rcases List.mem_append.1 hy with hy | hy
      · exact h.ok y hy
      · rw [List.mem_singleton.1 hy]; exact hn.1
    · rw [List.pairwise_append]
      refine ⟨h.one, List.pairwise_singleton _ _, fun a ha b hb => ?_⟩
      rw [List.mem_singleton.1 hb]
      have := hn.2 a ha
      unfold Cm.asks at this
      simpa using this
  · exact h
theorem applyC_again (acc : List Cm) (x : Cm) (h : (acc.any (·.asks x.c x.s)) = true) : applyC acc x = acc := by
  unfold applyC newC
  rw [h]; simp
theorem applyC_asks (acc : List Cm) (x : Cm) (h : okC x = true) : ((applyC acc x).any (·.asks x.c x.s)) = true := by
  unfold applyC newC
  rw [h]
  cases ha : acc.any (·.asks x.c x.s)
  · simp [Cm.asks]
  · simp only [Bool.not_true, Bool.and_false, Bool.false_eq_true, if_false]; exact ha

/-- The keys that have a value, rising, each as its bytes. -/
def keysOf (acc : List Cm) : List (List UInt8) := ((valsOf acc).map (·.1.data.toList)).mergeSort leB
def pairT (acc : List Cm) (k : List UInt8) : List UInt8 := k ++ [61] ++ ((valOf acc ⟨k.toArray⟩).getD ⟨#[]⟩).data.toList

end Go.Proofs.Ytfcaneofkdaicaa
