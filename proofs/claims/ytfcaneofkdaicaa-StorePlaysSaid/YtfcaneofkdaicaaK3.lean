/-
  A scope with one label to which the run jumps at most once, forward. It holds of every program.
-/
import Derived.Test.YtfcaneofkdaicaaK2
namespace Go.Proofs.Ytfcaneofkdaicaa

def Exit.once (P : Program) (l : Nat) (rest : Code) (Q : Exit → Act → World → Prop) : Exit → Act → World → Prop
  | .goto l', a, w => l' = l ∧ rest.wp P (Exit.noGoto Q) a w
  | e, a, w => Q e a w

section
variable {P : Program} {l : Nat} {rest c : Code} {Q : Exit → Act → World → Prop} {a : Act} {w : World}
theorem once_goto (h : rest.wp P (Exit.noGoto Q) a w) : Exit.once P l rest Q (.goto l) a w := ⟨rfl, h⟩
theorem once_ret (h : Q .ret a w) : Exit.once P l rest Q .ret a w := h
theorem once_normal (h : Q .normal a w) : Exit.once P l rest Q .normal a w := h
theorem noGoto_ret' (h : Q .ret a w) : Exit.noGoto Q .ret a w := h
theorem noGoto_normal (h : Q .normal a w) : Exit.noGoto Q .normal a w := h

theorem wp_scope_once (l : Nat) (hf : findLabel c l = some rest) (h : c.wp P (Exit.once P l rest Q) a w) : (Code.scope c).wp P Q a w := by
  refine wp_scope_jumps l (fun a w => rest.wp P (Exit.noGoto Q) a w) (fun _ _ => 0) hf ?_ ?_
  · exact Code.wp_mono (fun e _ _ q => by cases e <;> exact q) h
  · intro a' w' hJ
    refine Code.wp_mono (fun e _ _ q => ?_) hJ
    cases e <;> first | exact q | exact (q : False).elim
end

end Go.Proofs.Ytfcaneofkdaicaa
