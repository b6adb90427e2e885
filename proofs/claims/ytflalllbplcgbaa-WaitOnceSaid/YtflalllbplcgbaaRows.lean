/-
  No cell of these rows narrows 'for every input' (looked for: loops, veiled, ifaces, maps, wideKeys, modest, calm, conditions, laid).
  DERIVED. THE GIVEN ROWS OF THIS SEAT. 6 by the template 'for every input the law returns true; each argument reads behind the call as it read before'; 0 by the template 'total and deterministic' (their statements: YtflalllbplcgbaaTotals.lean).
  GIVEN WITH THE SEED: the statements are not yours to turn. If you find one false, say at which input.
  Laid BY PROGRAM, IN A SANDBOX (cutbox-rows.mjs): the forced cells as the released guide's own fill.sh prints them over the translation f110bc6074953912… (all of the seat's roots in one cut). By AI agents, Wed Nov 11 2026. No macro, syntax, notation, axiom, sorry.
-/
import Derived.Test.YtflalllbplcgbaaChecked
import GoSem.Claim
import GoSem.ClaimJoined
import GoSem.ClaimMapViews
import Derived.JoinedTies
import Derived.KernelRfl
namespace Go.Proofs.Ytflalllbplcgbaa
/- THE CELL 'sum', in the pinned program and in every row, IS THE sha256 OF THE DUMP (.gsa) THAT YtflalllbplcgbaaProg.lean LOADS. Nothing in Lean hashes anything: it is a label: what it is worth is what the hold of that sum in a sandbox is worth. -/
noncomputable def Try.pinned : Pinned := { name := "ytflalllbplcgbaa", sum := "f110bc60749539120576a812eb25f9885d1fc6ce03805a8405bdd84dfeb4621d", checked := Try.checked }
namespace Rows
def none {H : Type} : Left H := { results := [], args := [] }

/-- 'comitialaw18.WaitPlays': WHATEVER THE INPUT: true; the input reads as it did. -/
def waitPlaysSpec : ChangeSpec := { name := "waitPlays", fn := fun _ => fun
  | [d1, d2, d3, d4, d5, d6, d7] => { results := [.lit (.bool true)], args := [d1, d2, d3, d4, d5, d6, d7] }
  | _ => none }
def waitPlaysRow : OpenClaim := { program := "ytflalllbplcgbaa", sum := "f110bc60749539120576a812eb25f9885d1fc6ce03805a8405bdd84dfeb4621d", func := "comitia/comitialaw18.WaitPlays", spec := "waitPlays", unfollowed := true, recurses := true, plainKeys := false, apart := false }
def WaitPlaysSaid : Prop := waitPlaysRow.holds Try.pinned (OpenSpec.ofChange waitPlaysSpec)

/-- ITS FALSE NEIGHBOUR: 'it returns false'. Refute it at one input. -/
def waitPlaysWrong : ChangeSpec := { name := "waitPlays", fn := fun _ => fun
  | [d1, d2, d3, d4, d5, d6, d7] => { results := [.lit (.bool false)], args := [d1, d2, d3, d4, d5, d6, d7] }
  | _ => none }
def WaitPlaysWrongFalsely : Prop := waitPlaysRow.holds Try.pinned (OpenSpec.ofChange waitPlaysWrong)

/-- 'comitialaw18.WaitStaggers': WHATEVER THE INPUT: true; the input reads as it did. -/
def waitStaggersSpec : ChangeSpec := { name := "waitStaggers", fn := fun _ => fun
  | [d1, d2, d3, d4, d5, d6] => { results := [.lit (.bool true)], args := [d1, d2, d3, d4, d5, d6] }
  | _ => none }
def waitStaggersRow : OpenClaim := { program := "ytflalllbplcgbaa", sum := "f110bc60749539120576a812eb25f9885d1fc6ce03805a8405bdd84dfeb4621d", func := "comitia/comitialaw18.WaitStaggers", spec := "waitStaggers", unfollowed := true, recurses := true, plainKeys := false, apart := false }
def WaitStaggersSaid : Prop := waitStaggersRow.holds Try.pinned (OpenSpec.ofChange waitStaggersSpec)

/-- ITS FALSE NEIGHBOUR: 'it returns false'. Refute it at one input. -/
def waitStaggersWrong : ChangeSpec := { name := "waitStaggers", fn := fun _ => fun
  | [d1, d2, d3, d4, d5, d6] => { results := [.lit (.bool false)], args := [d1, d2, d3, d4, d5, d6] }
  | _ => none }
def WaitStaggersWrongFalsely : Prop := waitStaggersRow.holds Try.pinned (OpenSpec.ofChange waitStaggersWrong)

/-- 'comitialaw18.WaitOnce': WHATEVER THE INPUT: true; the input reads as it did. -/
def waitOnceSpec : ChangeSpec := { name := "waitOnce", fn := fun _ => fun
  | [d1, d2] => { results := [.lit (.bool true)], args := [d1, d2] }
  | _ => none }
def waitOnceRow : OpenClaim := { program := "ytflalllbplcgbaa", sum := "f110bc60749539120576a812eb25f9885d1fc6ce03805a8405bdd84dfeb4621d", func := "comitia/comitialaw18.WaitOnce", spec := "waitOnce", unfollowed := true, recurses := true, plainKeys := false, apart := false }
def WaitOnceSaid : Prop := waitOnceRow.holds Try.pinned (OpenSpec.ofChange waitOnceSpec)

/-- ITS FALSE NEIGHBOUR: 'it returns false'. Refute it at one input. -/
def waitOnceWrong : ChangeSpec := { name := "waitOnce", fn := fun _ => fun
  | [d1, d2] => { results := [.lit (.bool false)], args := [d1, d2] }
  | _ => none }
def WaitOnceWrongFalsely : Prop := waitOnceRow.holds Try.pinned (OpenSpec.ofChange waitOnceWrong)

/-- 'comitialaw18.WaitAnew': WHATEVER THE INPUT: true; the input reads as it did. -/
def waitAnewSpec : ChangeSpec := { name := "waitAnew", fn := fun _ => fun
  | [d1, d2, d3, d4] => { results := [.lit (.bool true)], args := [d1, d2, d3, d4] }
  | _ => none }
def waitAnewRow : OpenClaim := { program := "ytflalllbplcgbaa", sum := "f110bc60749539120576a812eb25f9885d1fc6ce03805a8405bdd84dfeb4621d", func := "comitia/comitialaw18.WaitAnew", spec := "waitAnew", unfollowed := true, recurses := true, plainKeys := false, apart := false }
def WaitAnewSaid : Prop := waitAnewRow.holds Try.pinned (OpenSpec.ofChange waitAnewSpec)

/-- ITS FALSE NEIGHBOUR: 'it returns false'. Refute it at one input. -/
def waitAnewWrong : ChangeSpec := { name := "waitAnew", fn := fun _ => fun
  | [d1, d2, d3, d4] => { results := [.lit (.bool false)], args := [d1, d2, d3, d4] }
  | _ => none }
def WaitAnewWrongFalsely : Prop := waitAnewRow.holds Try.pinned (OpenSpec.ofChange waitAnewWrong)

/-- 'comitialaw18.WaitDraws': WHATEVER THE INPUT: true; the input reads as it did. -/
def waitDrawsSpec : ChangeSpec := { name := "waitDraws", fn := fun _ => fun
  | [d1, d2] => { results := [.lit (.bool true)], args := [d1, d2] }
  | _ => none }
def waitDrawsRow : OpenClaim := { program := "ytflalllbplcgbaa", sum := "f110bc60749539120576a812eb25f9885d1fc6ce03805a8405bdd84dfeb4621d", func := "comitia/comitialaw18.WaitDraws", spec := "waitDraws", unfollowed := true, recurses := true, plainKeys := false, apart := false }
def WaitDrawsSaid : Prop := waitDrawsRow.holds Try.pinned (OpenSpec.ofChange waitDrawsSpec)

/-- ITS FALSE NEIGHBOUR: 'it returns false'. Refute it at one input. -/
def waitDrawsWrong : ChangeSpec := { name := "waitDraws", fn := fun _ => fun
  | [d1, d2] => { results := [.lit (.bool false)], args := [d1, d2] }
  | _ => none }
def WaitDrawsWrongFalsely : Prop := waitDrawsRow.holds Try.pinned (OpenSpec.ofChange waitDrawsWrong)

/-- 'comitialaw18.WaitRanks': WHATEVER THE INPUT: true; the input reads as it did. -/
def waitRanksSpec : ChangeSpec := { name := "waitRanks", fn := fun _ => fun
  | [d1, d2, d3] => { results := [.lit (.bool true)], args := [d1, d2, d3] }
  | _ => none }
def waitRanksRow : OpenClaim := { program := "ytflalllbplcgbaa", sum := "f110bc60749539120576a812eb25f9885d1fc6ce03805a8405bdd84dfeb4621d", func := "comitia/comitialaw18.WaitRanks", spec := "waitRanks", unfollowed := true, recurses := true, plainKeys := false, apart := false }
def WaitRanksSaid : Prop := waitRanksRow.holds Try.pinned (OpenSpec.ofChange waitRanksSpec)

/-- ITS FALSE NEIGHBOUR: 'it returns false'. Refute it at one input. -/
def waitRanksWrong : ChangeSpec := { name := "waitRanks", fn := fun _ => fun
  | [d1, d2, d3] => { results := [.lit (.bool false)], args := [d1, d2, d3] }
  | _ => none }
def WaitRanksWrongFalsely : Prop := waitRanksRow.holds Try.pinned (OpenSpec.ofChange waitRanksWrong)

/- THE SECOND FORM. 'bulk': how many values and letters a reading holds, each counted each time it is reached (what is shared counts as often as it is met; a slice's spare places count too). A statement '..UptoSaid' is the law's where the arguments, and the package variables that the reading takes, are together of bulk at most 1048576: NARROWER than '..Said'. Prove '..Said' where nothing that the law and all that it calls make is longer than what came in: it says more and counts as full. Else prove '..UptoSaid'. A law counts once. -/
mutual
def uptoBulk {H : Type} : DataW H → Nat
  | .lit (.string bytes) => bytes.length + 1
  | .lit _ => 1
  | .nil => 1
  | .ptr d => uptoBulk d + 1
  | .slice elems spare => uptoBulkAll elems + uptoBulkAll spare + 1
  | .agg parts => uptoBulkAll parts + 1
  | .iface _ d => uptoBulk d + 1
  | .map entries => uptoBulkEntries entries + 1
  | .held _ => 1
def uptoBulkAll {H : Type} : List (DataW H) → Nat
  | [] => 0
  | d :: r => uptoBulk d + uptoBulkAll r
def uptoBulkEntries {H : Type} : List (Lit × DataW H) → Nat
  | [] => 0
  | x :: r => uptoBulkEntry x + uptoBulkEntries r
def uptoBulkEntry {H : Type} : Lit × DataW H → Nat
  | (.string bytes, d) => bytes.length + uptoBulk d + 1
  | (_, d) => uptoBulk d + 1
 end
def uptoSmall : (H : Type) → List (DataW H) → Bool := fun _ ds => decide (uptoBulkAll ds ≤ 1048576)
def OpenSpec.upto (s : _root_.Go.ChangeSpec) : _root_.Go.OpenSpec := { _root_.Go.OpenSpec.ofChange s with cond := some uptoSmall }

/-- 'comitialaw18.WaitPlays', WHERE WHAT IT READS IS OF BULK AT MOST 1048576: true; the input reads as it did. -/
def waitPlaysUptoRow : OpenClaim := { program := "ytflalllbplcgbaa", sum := "f110bc60749539120576a812eb25f9885d1fc6ce03805a8405bdd84dfeb4621d", func := "comitia/comitialaw18.WaitPlays", spec := "waitPlays", unfollowed := true, recurses := true, plainKeys := false, apart := false, narrowed := true }
def WaitPlaysUptoSaid : Prop := waitPlaysUptoRow.holds Try.pinned (OpenSpec.upto waitPlaysSpec)

/-- 'comitialaw18.WaitStaggers', WHERE WHAT IT READS IS OF BULK AT MOST 1048576: true; the input reads as it did. -/
def waitStaggersUptoRow : OpenClaim := { program := "ytflalllbplcgbaa", sum := "f110bc60749539120576a812eb25f9885d1fc6ce03805a8405bdd84dfeb4621d", func := "comitia/comitialaw18.WaitStaggers", spec := "waitStaggers", unfollowed := true, recurses := true, plainKeys := false, apart := false, narrowed := true }
def WaitStaggersUptoSaid : Prop := waitStaggersUptoRow.holds Try.pinned (OpenSpec.upto waitStaggersSpec)

/-- 'comitialaw18.WaitOnce', WHERE WHAT IT READS IS OF BULK AT MOST 1048576: true; the input reads as it did. -/
def waitOnceUptoRow : OpenClaim := { program := "ytflalllbplcgbaa", sum := "f110bc60749539120576a812eb25f9885d1fc6ce03805a8405bdd84dfeb4621d", func := "comitia/comitialaw18.WaitOnce", spec := "waitOnce", unfollowed := true, recurses := true, plainKeys := false, apart := false, narrowed := true }
def WaitOnceUptoSaid : Prop := waitOnceUptoRow.holds Try.pinned (OpenSpec.upto waitOnceSpec)

/-- 'comitialaw18.WaitAnew', WHERE WHAT IT READS IS OF BULK AT MOST 1048576: true; the input reads as it did. -/
def waitAnewUptoRow : OpenClaim := { program := "ytflalllbplcgbaa", sum := "f110bc60749539120576a812eb25f9885d1fc6ce03805a8405bdd84dfeb4621d", func := "comitia/comitialaw18.WaitAnew", spec := "waitAnew", unfollowed := true, recurses := true, plainKeys := false, apart := false, narrowed := true }
def WaitAnewUptoSaid : Prop := waitAnewUptoRow.holds Try.pinned (OpenSpec.upto waitAnewSpec)

/-- 'comitialaw18.WaitDraws', WHERE WHAT IT READS IS OF BULK AT MOST 1048576: true; the input reads as it did. -/
def waitDrawsUptoRow : OpenClaim := { program := "ytflalllbplcgbaa", sum := "f110bc60749539120576a812eb25f9885d1fc6ce03805a8405bdd84dfeb4621d", func := "comitia/comitialaw18.WaitDraws", spec := "waitDraws", unfollowed := true, recurses := true, plainKeys := false, apart := false, narrowed := true }
def WaitDrawsUptoSaid : Prop := waitDrawsUptoRow.holds Try.pinned (OpenSpec.upto waitDrawsSpec)

/-- 'comitialaw18.WaitRanks', WHERE WHAT IT READS IS OF BULK AT MOST 1048576: true; the input reads as it did. -/
def waitRanksUptoRow : OpenClaim := { program := "ytflalllbplcgbaa", sum := "f110bc60749539120576a812eb25f9885d1fc6ce03805a8405bdd84dfeb4621d", func := "comitia/comitialaw18.WaitRanks", spec := "waitRanks", unfollowed := true, recurses := true, plainKeys := false, apart := false, narrowed := true }
def WaitRanksUptoSaid : Prop := waitRanksUptoRow.holds Try.pinned (OpenSpec.upto waitRanksSpec)

end Rows
end Go.Proofs.Ytflalllbplcgbaa
