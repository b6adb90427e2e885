/-
  Chapter 21: both bags, the program's and the document's, beside kept blocks; each deed on one of them.
-/
import Derived.Test.YtioehmlaaimeaaaQ
namespace Go.Proofs.Ytioehmlaaimeaaa
open Go.RowKit

structure PW (w0 w : World) (b : Nat) (lb : List It) (x : Nat) (lx : List It) (room : Int) (K : List Kept) : Prop where
  bel : Below w0.heap.size w0 w
  bag : ∃ v vx, IsB w w0.heap.size b v lb room ∧ IsR w w0.heap.size x vx lx room ∧ ∀ q ∈ K, Blk w q.1 q.2.1 q.2.2 ∧ (q.1 ≠ b ∧ v.ownBlock ≠ some q.1) ∧ (q.1 ≠ x ∧ vx.ownBlock ≠ some q.1)

section
variable {w0 w w' : World} {b x : Nat} {lb lx l' : List It} {room : Int} {K : List Kept}
theorem PW.sz (h : PW w0 w b lb x lx room K) : w0.heap.size ≤ w.heap.size := h.bel.size
theorem PW.kept (h : PW w0 w b lb x lx room K) {g : Nat} {t : TypeId} {cs : Array Value} (hq : (g, t, cs) ∈ K) : Blk w g t cs := by
  obtain ⟨v, vx, _, _, hk⟩ := h.bag
  exact (hk _ hq).1
theorem PW.lr (h : PW w0 w b lb x lx room K) : (lb.length : Int) ≤ room ∧ (lx.length : Int) ≤ room ∧ room ≤ 512 := by
  obtain ⟨v, vx, hv, hvx, _⟩ := h.bag
  exact ⟨hv.lr, hvx.lr, hv.r2⟩
theorem PW.below (h : PW w0 w b lb x lx room K) (hb : Below w.heap.size w w') : PW w0 w' b lb x lx room K := by
  obtain ⟨v, vx, hv, hvx, hk⟩ := h.bag
  exact ⟨h.bel.trans (hb.mono h.bel.size), v, vx, hv.below hb, hvx.below hb, fun q hq => ⟨(hk q hq).1.below hb (hk q hq).1.lt, (hk q hq).2⟩⟩
theorem PW.alloc (h : PW w0 w b lb x lx room K) (o : Obj) : PW w0 (w.alloc o) b lb x lx room K := h.below ((Below.refl _ _).alloc (Nat.le_refl _) o)
theorem PW.drewN (h : PW w0 w b lb x lx room K) (n : Nat) : PW w0 (w.drewN n) b lb x lx room K := h.below (below_drewN (Below.refl _ _) n)
theorem PW.drew (h : PW w0 w b lb x lx room K) : PW w0 w.drew b lb x lx room K := h.drewN 1
theorem PW.less (h : PW w0 w b lb x lx room K) {K' : List Kept} (hs : ∀ q ∈ K', q ∈ K) : PW w0 w b lb x lx room K' := by
  obtain ⟨v, vx, hv, hvx, hk⟩ := h.bag
  exact ⟨h.bel, v, vx, hv, hvx, fun q hq => hk q (hs q hq)⟩
theorem PW.push (h : PW w0 w b lb x lx room K) (cs : Array Value) (t : TypeId) : PW w0 (w.alloc (.cells cs t)) b lb x lx room ((w.heap.size, t, cs) :: K) := by
  obtain ⟨v, vx, hv, hvx, hk⟩ := h.bag
  refine ⟨(h.alloc _).bel, v, vx, hv.alloc _, hvx.alloc _, fun q hq => ?_⟩
  rcases List.mem_cons.1 hq with rfl | hq
  · exact ⟨Blk.new w t cs, ⟨by have := hv.lt; simp; omega, fun e => by have := (hv.own_ge _ e).2; simp at this⟩, ⟨by have := hvx.lt; simp; omega, fun e => by have := (hvx.own_ge _ e).2; simp at this⟩⟩
  · exact ⟨(hk q hq).1.alloc _, (hk q hq).2⟩
/-- The document's list as it lies in its struct. -/
theorem PW.field (h : PW w0 w b lb x lx room K) : ∃ A c, w.cell? ⟨x, 0, none⟩ = some (.slice A lx.length c) ∧
    ∀ k, k < lx.length → ∃ g, A = some ⟨g, 0, none⟩ ∧ lx.length ≤ c ∧ w.cell? ⟨g, k * 4, none⟩ = some (.int .i64 (itAt lx k).fr) ∧ w.cell? ⟨g, k * 4 + 1, none⟩ = some (.int .i64 (itAt lx k).to) ∧ w.cell? ⟨g, k * 4 + 2, none⟩ = some (.string (itAt lx k).by_) ∧ w.cell? ⟨g, k * 4 + 3, none⟩ = some (.int .u64 (itAt lx k).at_) := by
  obtain ⟨v, vx, _, hvx, _⟩ := h.bag
  obtain ⟨A, c, rfl⟩ := hvx.slice
  refine ⟨A, c, (hvx.blk.cell 0).trans rfl, fun k hk => ?_⟩
  obtain ⟨g, cap, hv, _, _, hc, _⟩ := hvx.shape' (by omega)
  obtain ⟨a0, a1, a2, a3⟩ := hvx.cells4 hk hv
  injection hv with h1 _ h3
  subst h1 h3
  exact ⟨g, rfl, hc, a0, a1, a2, a3⟩

theorem PW.opB {P : Program} {f : FuncId} {args : Array Value} {r : Ending} (h : PW w0 w b lb x lx room K)
    (hop : ∀ v, IsB w w0.heap.size b v lb room → Calls P f args w fun e w' => e = r ∧ ∃ v', IsB w' w0.heap.size b v' l' room ∧ Ap w w' b v ∧ Nw w v v') :
    Calls P f args w fun e w' => e = r ∧ PW w0 w' b l' x lx room K := by
  obtain ⟨v, vx, hv, hvx, hk⟩ := h.bag
  refine (hop v hv).mono ?_
  rintro e w' ⟨rfl, v', hv', ha, hn⟩
  refine ⟨rfl, h.bel.trans (ha.below h.bel.size hv.gb fun g hg => (hv.own_ge g hg).1), v', vx, hv', hvx.other hv ha (by decide) (by decide) (by decide) (by decide), fun q hq => ?_⟩
  obtain ⟨k1, ⟨k2, k3⟩, k4⟩ := hk q hq
  refine ⟨ha.blk k1 k2 k3, ⟨k2, fun e => ?_⟩, k4⟩
  rcases hn _ e with h1 | h1
  · exact k3 h1
  · have := k1.lt
    omega
theorem PW.opR {P : Program} {f : FuncId} {args : Array Value} {r : Ending} (h : PW w0 w b lb x lx room K)
    (hop : ∀ v, IsR w w0.heap.size x v lx room → Calls P f args w fun e w' => e = r ∧ ∃ v', IsR w' w0.heap.size x v' l' room ∧ Ap w w' x v ∧ Nw w v v') :
    Calls P f args w fun e w' => e = r ∧ PW w0 w' b lb x l' room K := by
  obtain ⟨v, vx, hv, hvx, hk⟩ := h.bag
  refine (hop vx hvx).mono ?_
  rintro e w' ⟨rfl, v', hv', ha, hn⟩
  refine ⟨rfl, h.bel.trans (ha.below h.bel.size hvx.gb fun g hg => (hvx.own_ge g hg).1), v, v', hv.other hvx ha (by decide) (by decide) (by decide) (by decide), hv', fun q hq => ?_⟩
  obtain ⟨k1, k4, ⟨k2, k3⟩⟩ := hk q hq
  refine ⟨ha.blk k1 k2 k3, k4, ⟨k2, fun e => ?_⟩⟩
  rcases hn _ e with h1 | h1
  · exact k3 h1
  · have := k1.lt
    omega

theorem pw_new (n : Int) (w0 w : World) (hb : Below w0.heap.size w0 w) (h1 : 1 ≤ n) (h2 : n ≤ 512) :
    Calls Try.prog 8 #[.int .i64 n] w fun e w' => ∃ b, e = .returned (.tuple #[.pointer (some ⟨b, 0, none⟩), .int .i64 0]) ∧ BB w0 w' b [] n [] := bw_new n w0 w hb h1 h2
theorem pw_rnew (n : Int) (h : BB w0 w b [] n []) (h1 : 1 ≤ n) (h2 : n ≤ 512) :
    Calls Try.prog 9 #[.int .i64 n] w fun e w' => ∃ x, e = .returned (.pointer (some ⟨x, 0, none⟩)) ∧ PW w0 w' b [] x [] n [] := by
  refine (rnew_ok n w h1 h2).mono ?_
  rintro e w' ⟨rfl, hx, hb'⟩
  obtain ⟨v, hv, _⟩ := h.bag
  exact ⟨_, rfl, h.bel.trans (hb'.mono h.bel.size), v, .slice none 0 0, hv.below hb', ⟨hx.blk, World.ownsRow_nil _ _ _ _, h.bel.size, hx.lr, hx.r1, hx.r2⟩, fun q hq => by cases hq⟩

theorem pw_put (y : It) (h : PW w0 w b lb x lx room K) {e : Int} (he : putE lb room y = e) (hl : putL lb room y = l') :
    Calls Try.prog 17 #[.pointer (some ⟨b, 0, none⟩), y.val] w fun e' w' => e' = .returned (.int .i64 e) ∧ PW w0 w' b l' x lx room K := by
  subst he hl
  exact h.opB fun v hv => put_any _ b v lb room y w hv h.sz
theorem pw_rput (y : It) (h : PW w0 w b lb x lx room K) {e : Int} (he : putE lx room y = e) (hl : putL lx room y = l') :
    Calls Try.prog 19 #[.pointer (some ⟨x, 0, none⟩), y.val] w fun e' w' => e' = .returned (.int .i64 e) ∧ PW w0 w' b lb x l' room K := by
  subst he hl
  exact h.opR fun v hv => rput_any _ x v lx room y w hv h.sz
theorem pw_take (p : Int) (h : PW w0 w b lb x lx room K) {y : It} {e : Int} (hx : takeX lb p = y) (he : pickE lb p = e) (hl : takeL lb p = l') :
    Calls Try.prog 10 #[.pointer (some ⟨b, 0, none⟩), .int .i64 p] w fun e' w' => e' = .returned (.tuple #[y.val, .int .i64 e]) ∧ PW w0 w' b l' x lx room K := by
  subst he hl hx
  exact h.opB fun v hv => take_any _ b v lb room p w hv
theorem pw_rtake (p : Int) (h : PW w0 w b lb x lx room K) {y : It} {e : Int} (hx : takeX lx p = y) (he : pickE lx p = e) (hl : takeL lx p = l') :
    Calls Try.prog 11 #[.pointer (some ⟨x, 0, none⟩), .int .i64 p] w fun e' w' => e' = .returned (.tuple #[y.val, .int .i64 e]) ∧ PW w0 w' b lb x l' room K := by
  subst he hl hx
  exact h.opR fun v hv => rtake_any _ x v lx room p w hv
theorem pw_copy (p : Int) (h : PW w0 w b lb x lx room K) {e : Int} (he : copyE lb room p = e) (hl : copyL lb room p = l') :
    Calls Try.prog 13 #[.pointer (some ⟨b, 0, none⟩), .int .i64 p] w fun e' w' => e' = .returned (.int .i64 e) ∧ PW w0 w' b l' x lx room K := by
  subst he hl
  exact h.opB fun v hv => copy_any _ b v lb room p w hv h.sz
theorem pw_rcopy (p : Int) (h : PW w0 w b lb x lx room K) {e : Int} (he : copyE lx room p = e) (hl : copyL lx room p = l') :
    Calls Try.prog 14 #[.pointer (some ⟨x, 0, none⟩), .int .i64 p] w fun e' w' => e' = .returned (.int .i64 e) ∧ PW w0 w' b lb x l' room K := by
  subst he hl
  exact h.opR fun v hv => rcopy_any _ x v lx room p w hv h.sz
theorem pw_last (p : Int) (h : PW w0 w b lb x lx room K) {e : Int} (he : pickE lb p = e) (hl : lastL lb p = l') :
    Calls Try.prog 15 #[.pointer (some ⟨b, 0, none⟩), .int .i64 p] w fun e' w' => e' = .returned (.int .i64 e) ∧ PW w0 w' b l' x lx room K := by
  subst he hl
  exact h.opB fun v hv => last_any _ b v lb room p w hv h.sz
theorem pw_rlast (p : Int) (h : PW w0 w b lb x lx room K) {e : Int} (he : pickE lx p = e) (hl : lastL lx p = l') :
    Calls Try.prog 16 #[.pointer (some ⟨x, 0, none⟩), .int .i64 p] w fun e' w' => e' = .returned (.int .i64 e) ∧ PW w0 w' b lb x l' room K := by
  subst he hl
  exact h.opR fun v hv => rlast_any _ x v lx room p w hv h.sz
theorem pw_oldest (h : PW w0 w b lb x lx room K) {y : It} {ok : Bool} (hx : oldR lb = (y, ok)) :
    Calls Try.prog 20 #[.pointer (some ⟨b, 0, none⟩)] w fun e' w' => e' = .returned (.tuple #[y.val, .bool ok]) ∧ PW w0 w' b lb x lx room K := by
  obtain ⟨v, vx, hv, _⟩ := h.bag
  have := oldest_any _ b v lb room w hv
  rw [hx] at this
  exact this.mono fun e w' ⟨he, hb⟩ => ⟨he, h.below hb⟩
theorem pw_roldest (h : PW w0 w b lb x lx room K) {y : It} {ok : Bool} (hx : oldR lx = (y, ok)) :
    Calls Try.prog 21 #[.pointer (some ⟨x, 0, none⟩)] w fun e' w' => e' = .returned (.tuple #[y.val, .bool ok]) ∧ PW w0 w' b lb x lx room K := by
  obtain ⟨v, vx, hv, hvx, _⟩ := h.bag
  have := roldest_any _ x vx lx room w hvx
  rw [hx] at this
  exact this.mono fun e w' ⟨he, hb⟩ => ⟨he, h.below hb⟩
theorem pw_len (h : PW w0 w b lb x lx room K) : Calls Try.prog 22 #[.pointer (some ⟨b, 0, none⟩)] w fun e w' => e = .returned (.int .i64 lb.length) ∧ w = w' := by
  obtain ⟨v, vx, hv, _⟩ := h.bag
  exact len_any _ b v lb room w hv
theorem pw_items (h : PW w0 w b lb x lx room K) : Calls Try.prog 23 #[.pointer (some ⟨b, 0, none⟩)] w fun e w' => ∃ A c, e = .returned (.slice A lb.length c) ∧ w'.ownsRow w.heap.size 33 4 (.slice A lb.length c) lb.length (cellsOf lb) ∧ PW w0 w' b lb x lx room K := by
  obtain ⟨v, vx, hv, _⟩ := h.bag
  refine (items_any _ b v lb room w hv).mono ?_
  rintro e w' ⟨v', rfl, ho, hb⟩
  obtain ⟨A, c, rfl⟩ := own_slice ho
  exact ⟨A, c, rfl, ho, h.below hb⟩
end

theorem eq_ritem (x y : It) (w : World) : (binOp .eql 38 x.val y.val).run Try.prog w = .ok (.bool (eqIt x y)) w := by
  have hS : Try.prog.underlying 38 = some (.struct (Try.prog.fieldsOf 38)) := by kernel_rfl
  have hp : Try.prog.stoodInHeld 38 = false := by kernel_rfl
  have u3 := Try.underlying3
  have u9 := Try.underlying9
  have u31 := Try.underlying31
  have a3 := Try.isAgg3
  have a9 := Try.isAgg9
  have a31 := Try.isAgg31
  have z3 := Try.sizeOf3
  have z9 := Try.sizeOf9
  have z31 := Try.sizeOf31
  rw [run_eql_struct, show (10000 : Nat) = 9999 + 1 from rfl, run_equalIn_agg w 9999 38 _ _ hS hp]
  simp only [Program.fieldsOf, Try.underlying38]
  go_simp
  unfold eqIt
  by_cases h1 : x.fr = y.fr <;> by_cases h2 : x.to = y.to <;> by_cases h3 : (x.by_.toList == y.by_.toList) = true <;> by_cases h4 : x.at_ = y.at_ <;> simp_all
theorem neq_ritem (x y : It) (w : World) : (binOp .neq 38 x.val y.val).run Try.prog w = .ok (.bool (!eqIt x y)) w := by
  have h := eq_ritem x y w
  rw [run_eql_struct] at h
  rw [run_neq_struct]
  cases hh : (Op.equalIn 10000 38 (.agg x.val.cells) (.agg y.val.cells)).run Try.prog w with
  | ok b w' =>
    have hh2 : (Op.equalIn 10000 38 x.val y.val).run Try.prog w = .ok b w' := hh
    rw [hh2] at h ⊢
    simp only [Result.andThen_ok] at h ⊢
    injection h with h1 h2
    injection h1 with h1
    rw [h1, h2]
  | halt e w' =>
    have hh2 : (Op.equalIn 10000 38 x.val y.val).run Try.prog w = .halt e w' := hh
    rw [hh2] at h
    cases h
theorem guard_ritem (op : BinOp) (o1 o2 : Operand) (xs ys : Array Value) (w : World) : (eqGuard op 38 o1 o2 (.agg xs) (.agg ys)).run Try.prog w = .ok () w :=
  run_eqGuard_agg w op 38 o1 o2 xs ys (by kernel_rfl)

/-- The item that a deed names. -/
def nearI (x : It) : It := ⟨1 + IntKind.u64.wrap x.fr % 7, 1 + IntKind.u64.wrap x.to % 7, ⟨#[109]⟩ ++ x.by_.extract 0 (min x.by_.size 9), x.at_ % 9⟩
def deedI (x : It) (near : Bool) : It := if near = true then nearI x else x
abbrev deedV (kd : Int) (x : It) (p : Int) (near : Bool) : Array Value := #[.int .u8 kd, .int .i64 x.fr, .int .i64 x.to, .string x.by_, .int .u64 x.at_, .int .i64 p, .bool near]

set_option maxHeartbeats 2000000 in
theorem ditem_far (kd p : Int) (x : It) (w : World) : Calls Try.prog 18 #[.agg (deedV kd x p false)] w fun e w' => e = .returned x.val ∧ Below w.heap.size w w' := by
  go_enter Try.func18, Try.ntmps18
  go_wp2
  have kz := Blk.new (w.alloc (.cells (deedV kd x p false) 35)) 33 #[Value.int IntKind.i64 x.fr, Value.int IntKind.i64 x.to, Value.string x.by_, Value.int IntKind.u64 x.at_]
  rw [World.size_alloc] at kz
  have r0 := (kz.cell 0).trans rfl
  have r1 := (kz.cell 1).trans rfl
  have r2 := (kz.cell 2).trans rfl
  have r3 := (kz.cell 3).trans rfl
  refine bodyPost_ret (v := x.val) (by simp [results, Try.results18, go_sem, r0, r1, r2, r3]) rfl ⟨rfl, ?_⟩
  exact ((Below.refl w.heap.size w).alloc (Nat.le_refl _) _).alloc (by simp) _

set_option maxHeartbeats 4000000 in
theorem ditem_near (kd p : Int) (x : It) (w : World) (b1 : -9223372036854775808 ≤ x.fr ∧ x.fr ≤ 9223372036854775807) (b2 : -9223372036854775808 ≤ x.to ∧ x.to ≤ 9223372036854775807) (b3 : 0 ≤ x.at_ ∧ x.at_ < 18446744073709551616) (b4 : x.by_.size ≤ maxLen) :
    Calls Try.prog 18 #[.agg (deedV kd x p true)] w fun e w' => e = .returned (nearI x).val ∧ Below w.heap.size w w' := by
  unfold maxLen at b4
  have w0 : ∀ z : Int, 0 ≤ IntKind.u64.wrap z := fun z => by rw [IntKind.wrap_u64]; omega
  have f0 := w0 x.fr
  have f1 : (IntKind.u64.wrap x.fr).tmod 7 = IntKind.u64.wrap x.fr % 7 := Int.tmod_eq_emod_of_nonneg f0
  have f2 : IntKind.i64.wrap (IntKind.u64.wrap x.fr % 7) = IntKind.u64.wrap x.fr % 7 := IntWalk.i64_in _ (by omega)
  have f3 : IntKind.i64.wrap (1 + IntKind.u64.wrap x.fr % 7) = 1 + IntKind.u64.wrap x.fr % 7 := IntWalk.i64_in _ (by omega)
  have t0 := w0 x.to
  have t1 : (IntKind.u64.wrap x.to).tmod 7 = IntKind.u64.wrap x.to % 7 := Int.tmod_eq_emod_of_nonneg t0
  have t2 : IntKind.i64.wrap (IntKind.u64.wrap x.to % 7) = IntKind.u64.wrap x.to % 7 := IntWalk.i64_in _ (by omega)
  have t3 : IntKind.i64.wrap (1 + IntKind.u64.wrap x.to % 7) = 1 + IntKind.u64.wrap x.to % 7 := IntWalk.i64_in _ (by omega)
  have a1 : x.at_.tmod 9 = x.at_ % 9 := Int.tmod_eq_emod_of_nonneg b3.1
  clear w0 f0 t0
  rcases Int.lt_or_le 9 (x.by_.size : Int) with h9 | h9
  · have h9' : (9 : Int) ≤ (x.by_.size : Int) := by omega
    have hc : ¬ 9223372036854775807 < 1 + min 9 x.by_.size := by omega
    have hX : nearI x = ⟨1 + IntKind.u64.wrap x.fr % 7, 1 + IntKind.u64.wrap x.to % 7, ⟨#[109]⟩ ++ x.by_.extract 0 9, x.at_ % 9⟩ := by rw [nearI, Nat.min_eq_right (by omega)]
    rw [hX]
    clear hX
    go_enter Try.func18, Try.ntmps18
    go_wp2
    refine wp_region_tail 29 mixed (by kernel_rfl) ?_
    simp only [List.take_succ_cons, List.take_zero, List.drop_succ_cons, List.drop_zero]
    repeat still_step
    refine wpStill_nil ?_
    go_wp2
    have kz := (Blk.new (w.alloc (.cells (deedV kd x p true) 35)) 33 #[Value.int IntKind.i64 (1 + IntKind.u64.wrap x.fr % 7), Value.int IntKind.i64 (1 + IntKind.u64.wrap x.to % 7), Value.string (⟨#[109]⟩ ++ x.by_.extract 0 9), Value.int IntKind.u64 (x.at_ % 9)]).drew
    rw [World.size_alloc] at kz
    have r0 := (kz.cell 0).trans rfl
    have r1 := (kz.cell 1).trans rfl
    have r2 := (kz.cell 2).trans rfl
    have r3 := (kz.cell 3).trans rfl
    refine bodyPost_ret (v := It.val ⟨1 + IntKind.u64.wrap x.fr % 7, 1 + IntKind.u64.wrap x.to % 7, ⟨#[109]⟩ ++ x.by_.extract 0 9, x.at_ % 9⟩) (by simp [results, Try.results18, go_sem, r0, r1, r2, r3]) rfl ⟨rfl, ?_⟩
    exact (((Below.refl w.heap.size w).alloc (Nat.le_refl _) _).alloc (by simp) _).drew
  · have h9' : (if (9 : Int) < (x.by_.size : Int) then (9 : Int) else (x.by_.size : Int)) = (x.by_.size : Int) := if_neg (by omega)
    have hc : ¬ 9223372036854775807 < 1 + x.by_.size := by omega
    have hX : nearI x = ⟨1 + IntKind.u64.wrap x.fr % 7, 1 + IntKind.u64.wrap x.to % 7, ⟨#[109]⟩ ++ x.by_.extract 0 x.by_.size, x.at_ % 9⟩ := by rw [nearI, Nat.min_eq_left (by omega)]
    rw [hX]
    clear hX h9
    go_enter Try.func18, Try.ntmps18
    go_wp2
    refine wp_region_tail 29 mixed (by kernel_rfl) ?_
    simp only [List.take_succ_cons, List.take_zero, List.drop_succ_cons, List.drop_zero]
    repeat still_step
    refine wpStill_nil ?_
    go_wp2
    have kz := (Blk.new (w.alloc (.cells (deedV kd x p true) 35)) 33 #[Value.int IntKind.i64 (1 + IntKind.u64.wrap x.fr % 7), Value.int IntKind.i64 (1 + IntKind.u64.wrap x.to % 7), Value.string (⟨#[109]⟩ ++ x.by_.extract 0 x.by_.size), Value.int IntKind.u64 (x.at_ % 9)]).drew
    rw [World.size_alloc] at kz
    have r0 := (kz.cell 0).trans rfl
    have r1 := (kz.cell 1).trans rfl
    have r2 := (kz.cell 2).trans rfl
    have r3 := (kz.cell 3).trans rfl
    refine bodyPost_ret (v := It.val ⟨1 + IntKind.u64.wrap x.fr % 7, 1 + IntKind.u64.wrap x.to % 7, ⟨#[109]⟩ ++ x.by_.extract 0 x.by_.size, x.at_ % 9⟩) (by simp [results, Try.results18, go_sem, r0, r1, r2, r3]) rfl ⟨rfl, ?_⟩
    exact (((Below.refl w.heap.size w).alloc (Nat.le_refl _) _).alloc (by simp) _).drew

end Go.Proofs.Ytioehmlaaimeaaa
