/-
  A piece of a function's code by its place, used by the proofs of this seat.
-/
import Derived.Test.YtfcaneofkdaicaaK
namespace Go.Proofs.Ytfcaneofkdaicaa
def codeAt : Code → List Nat → Code
  | c, [] => c
  | .seq a _, 0 :: p => codeAt a p
  | .seq _ b, _ :: p => codeAt b p
  | .cond _ a _, 0 :: p => codeAt a p
  | .cond _ _ b, _ :: p => codeAt b p
  | .block _ c, _ :: p => codeAt c p
  | .loop c, _ :: p => codeAt c p
  | .scope c, _ :: p => codeAt c p
  | c, _ => c
theorem wp_block_then {P : Program} {id : Nat} {body : Code} {K : Act → World → Prop} {Q : Exit → Act → World → Prop} {a : Act} {w : World}
    (h : body.wp P (Exit.then K (Exit.inBlock id (Exit.then K Q))) a w) : (Code.block id body).wp P (Exit.then K Q) a w :=
  wp_block (Code.wp_mono (fun e _ _ q => by cases e <;> exact q) h)
end Go.Proofs.Ytfcaneofkdaicaa
