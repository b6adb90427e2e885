/-
  The plain side of chapter 21, on: what each deed does to a bag's list.
-/
import Derived.Test.YtioehmlaaimeaaaS
import Derived.Laws.Strings
namespace Go.Proofs.Ytioehmlaaimeaaa
open Go.RowKit

def mayI (x : It) : Bool := decide (1 ≤ x.fr) && decide (x.fr ≤ 7) && (decide (1 ≤ x.to) && decide (x.to ≤ 7)) && decide (1 ≤ x.by_.size) && decide (x.by_.size ≤ 8192)
def putE (l : List It) (room : Int) (x : It) : Int := if mayI x = true then (if (l.length : Int) < room then 0 else 4) else 1
def putL (l : List It) (room : Int) (x : It) : List It := if putE l room x = 0 then l ++ [x] else l
def pickE (l : List It) (p : Int) : Int := if p < 0 then 1 else if l.length = 0 then 5 else 0
def pickN (l : List It) (p : Int) : Nat := if pickE l p = 0 then (p % l.length).toNat else 0
def takeX (l : List It) (p : Int) : It := if pickE l p = 0 then itAt l (pickN l p) else It.z
def takeL (l : List It) (p : Int) : List It := if pickE l p = 0 then l.take (pickN l p) ++ l.drop (pickN l p + 1) else l
def copyE (l : List It) (room : Int) (p : Int) : Int := if pickE l p = 0 then putE l room (itAt l (pickN l p)) else pickE l p
def copyL (l : List It) (room : Int) (p : Int) : List It := if pickE l p = 0 then putL l room (itAt l (pickN l p)) else l
def lastL (l : List It) (p : Int) : List It := if pickE l p = 0 then takeL l p ++ [takeX l p] else l
def oldS (s : It × Bool) (y : It) : It × Bool := if (!s.2 || decide (y.at_ < s.1.at_)) = true then (y, true) else s
def oldR (l : List It) : It × Bool := l.foldl oldS (It.z, false)

theorem pick_lt {l : List It} {p : Int} (h : pickE l p = 0) : pickN l p < l.length := by
  have h0 := h
  unfold pickE at h
  split at h
  · cases h
  · split at h
    · cases h
    · rename_i h1 h2
      rw [pickN, if_pos h0]
      have : p % (l.length : Int) < l.length := Int.emod_lt_of_pos _ (by omega)
      have : 0 ≤ p % (l.length : Int) := Int.emod_nonneg _ (by omega)
      omega
theorem takeL_len {l : List It} {p : Int} (h : pickE l p = 0) : (takeL l p).length + 1 = l.length := by
  have := pick_lt h
  rw [takeL, if_pos h, List.length_append, List.length_take, List.length_drop]
  omega
theorem takeL_le (l : List It) (p : Int) : (takeL l p).length ≤ l.length := by
  by_cases h : pickE l p = 0
  · have := takeL_len h; omega
  · rw [takeL, if_neg h]; exact Nat.le_refl _
theorem putL_len {l : List It} {room : Int} {x : It} (h : (l.length : Int) ≤ room) : ((putL l room x).length : Int) ≤ room := by
  unfold putL
  split
  · rename_i h1
    unfold putE at h1
    split at h1
    · split at h1
      · simp; omega
      · cases h1
    · cases h1
  · exact h
theorem lastL_len {l : List It} {p : Int} : (lastL l p).length = l.length := by
  unfold lastL
  split
  · rename_i h
    have := takeL_len h
    simp; omega
  · rfl
theorem copyL_len {l : List It} {room : Int} {p : Int} (h : (l.length : Int) ≤ room) : ((copyL l room p).length : Int) ≤ room := by
  unfold copyL
  split
  · exact putL_len h
  · exact h
theorem oldR_snoc (l : List It) (x : It) : oldR (l ++ [x]) = oldS (oldR l) x := by simp [oldR]
theorem oldR_ok (l : List It) : (oldR l).2 = decide (0 < l.length) := by
  rcases l.eq_nil_or_concat with rfl | ⟨m, x, rfl⟩
  · rfl
  · rw [List.concat_eq_append, oldR_snoc]
    unfold oldS
    split
    · simp
    · rename_i h
      cases hh : (oldR m).2 <;> simp_all
theorem take_succ_it (l : List It) (k : Nat) (h : k < l.length) : l.take (k + 1) = l.take k ++ [itAt l k] := by
  rw [List.take_add_one, itAt_some h]
  rfl


section
variable {T E : TypeId} {w wa w1 : World} {base b : Nat} {v v' : Value} {l l' : List It} {room : Int}
/-- The bag's row was turned, and its head laid into its struct. -/
theorem BagIs.push (h : BagIs T E w base b v l room) (hT : T ≠ E) (hl : (l'.length : Int) ≤ room) (hown : w1.ownsRow base E 4 v' l'.length (cellsOf l')) (hg : w.grownBy w1 v.ownBlock)
    (hv : v'.ownBlock = v.ownBlock ∨ ∀ g, v'.ownBlock = some g → w.heap.size ≤ g) :
    BagIs T E (w1.setCell ⟨b, 0, none⟩ v') base b v' l' room ∧ Ap w (w1.setCell ⟨b, 0, none⟩ v') b v ∧ Nw w v v' := by
  have hb : v'.ownBlock ≠ some b := by
    rcases hv with hv | hv
    · rw [hv]; exact h.ne hT
    · intro e
      have := hv b e
      have := h.lt
      omega
  have hblk : Blk w1 b T #[v, .int .i64 room] := h.blk.grown hg (fun e => h.ne hT e.symm)
  refine ⟨⟨?_, ?_, h.gb, hl, h.r1, h.r2⟩, ?_, ?_⟩
  · have := hblk.set_ 0 v'
    simpa using this
  · exact hown.kept (row := some b) (only_set (World.grownBy.refl w1 (some b)) 0 v') (.inr hb)
  · exact ⟨hg.os, hg.tape, hg.output, by simpa [World.setCell] using hg.size, fun k hk h1 h2 => (Below.heap_setCell w1 ⟨b, 0, none⟩ v' k h1).trans (hg.block k hk (fun e => h2 e.symm))⟩
  · intro g hg'
    rcases hv with hv | hv
    · exact .inl (by rw [← hv]; exact hg')
    · exact .inr (hv g hg')
end

section
variable {T E : TypeId} {w w' : World} {base b : Nat} {v : Value} {l : List It} {room : Int}
theorem BagIs.setFar (h : BagIs T E w base b v l room) {p : Addr} (h1 : b ≠ p.block) (h2 : v.ownBlock ≠ some p.block) (u : Value) : BagIs T E (w.setCell p u) base b v l room :=
  ⟨h.blk.far h1 u, h.own.kept (row := some p.block) (only_setCell (World.grownBy.refl w (some p.block)) (.inl rfl) u) (.inr h2), h.gb, h.lr, h.r1, h.r2⟩
theorem Ap.setFar (h : Ap w w' b v) {p : Addr} (hp : w.heap.size ≤ p.block) (u : Value) : Ap w (w'.setCell p u) b v :=
  h.grown (only_setCell (World.grownBy.refl w' (some p.block)) (.inl rfl) u) (fun g e => by injection e with e; exact .inr (.inr (by omega)))
theorem BagIs.old (h : BagIs T E w base b v l room) {g : Nat} (hg : w.heap.size ≤ g) : b ≠ g ∧ v.ownBlock ≠ some g :=
  ⟨by have := h.lt; omega, fun e => by have := h.own_ge g e; omega⟩
theorem BagIs.cells4 (h : BagIs T E w base b v l room) {k : Nat} (hk : k < l.length) {g cap : Nat} (hv : v = .slice (some ⟨g, 0, none⟩) l.length cap) :
    w.cell? ⟨g, k * 4, none⟩ = some (.int .i64 (itAt l k).fr) ∧ w.cell? ⟨g, k * 4 + 1, none⟩ = some (.int .i64 (itAt l k).to) ∧ w.cell? ⟨g, k * 4 + 2, none⟩ = some (.string (itAt l k).by_) ∧ w.cell? ⟨g, k * 4 + 3, none⟩ = some (.int .u64 (itAt l k).at_) :=
  ⟨h.cell hk (j := 0) (by omega) rfl hv, h.cell hk (j := 1) (by omega) rfl hv, h.cell hk (j := 2) (by omega) rfl hv, h.cell hk (j := 3) (by omega) rfl hv⟩
theorem BagIs.readsFrom (h : BagIs T E w base b v l room) {g cap : Nat} (hv : v = .slice (some ⟨g, 0, none⟩) l.length cap) (k : Nat) (hk : k < l.length) (hc : k + 1 < cap) (hle : l.length ≤ cap) :
    Reads w w.heap.size 4 (some ⟨g, (k + 1) * 4, none⟩) (l.length - (k + 1)) (cellsOf (l.drop (k + 1))) := by
  subst hv
  have r := (Reads.of_own h.own).cut (k := k + 1) (cap := cap) (by omega) hle
  rw [if_neg (by omega), cellsOf_drop l (k + 1) (by omega)] at r
  have e : (⟨g, 0, none⟩ : Addr).add ((k + 1) * 4) = ⟨g, (k + 1) * 4, none⟩ := by unfold Addr.add; split <;> simp_all
  simpa [e] using r
theorem BagIs.shape' (h : BagIs T E w base b v l room) (hl : l.length ≠ 0) : ∃ g cap, v = .slice (some ⟨g, 0, none⟩) l.length cap ∧ base ≤ g ∧ g < w.heap.size ∧ l.length ≤ cap ∧ cap ≤ maxLen := by
  rcases h.shape with ⟨_, rfl⟩ | h
  · exact absurd rfl hl
  · exact h
end

theorem isEmpty_size (s : ByteArray) : s.toList.isEmpty = decide (s.size = 0) := by
  have h : s.toList.length = s.size := by rw [ByteArray.toList_eq]; simp
  cases hs : s.toList with
  | nil => simp [hs] at h; simp [← h]
  | cons x m => simp [hs] at h; simp [← h]

end Go.Proofs.Ytioehmlaaimeaaa
