/-
  No cell of these rows narrows 'for every input' (looked for: loops, veiled, ifaces, maps, wideKeys, modest, calm, conditions, laid).
  DERIVED. THE GIVEN ROWS OF THIS SEAT. 5 by the template 'for every input the law returns true; each argument reads behind the call as it read before'; 0 by the template 'total and deterministic' (their statements: YtonjpdidbgicgaaTotals.lean).
  GIVEN WITH THE SEED: the statements are not yours to turn. If you find one false, say at which input.
  Laid BY PROGRAM, IN A SANDBOX (cutbox-rows.mjs): the forced cells as the released guide's own fill.sh prints them over the translation be36ed2353f78184… (all of the seat's roots in one cut). By AI agents, Wed Nov 11 2026. No macro, syntax, notation, axiom, sorry.
-/
import Derived.Test.YtonjpdidbgicgaaChecked
import GoSem.Claim
import GoSem.ClaimJoined
import GoSem.ClaimMapViews
import Derived.JoinedTies
import Derived.KernelRfl
namespace Go.Proofs.Ytonjpdidbgicgaa
/- THE CELL 'sum', in the pinned program and in every row, IS THE sha256 OF THE DUMP (.gsa) THAT YtonjpdidbgicgaaProg.lean LOADS. Nothing in Lean hashes anything: it is a label: what it is worth is what the hold of that sum in a sandbox is worth. -/
noncomputable def Try.pinned : Pinned := { name := "ytonjpdidbgicgaa", sum := "be36ed2353f78184331f1b8c057d9574d9e225e50b9ef3ba0d6d082a2e1be81d", checked := Try.checked }
namespace Rows
def none {H : Type} : Left H := { results := [], args := [] }

/-- 'comitialaw19.BeatPlays': WHATEVER THE INPUT: true; the input reads as it did. -/
def beatPlaysSpec : ChangeSpec := { name := "beatPlays", fn := fun _ => fun
  | [d1, d2, d3, d4, d5] => { results := [.lit (.bool true)], args := [d1, d2, d3, d4, d5] }
  | _ => none }
def beatPlaysRow : OpenClaim := { program := "ytonjpdidbgicgaa", sum := "be36ed2353f78184331f1b8c057d9574d9e225e50b9ef3ba0d6d082a2e1be81d", func := "comitia/comitialaw19.BeatPlays", spec := "beatPlays", apart := false }
def BeatPlaysSaid : Prop := beatPlaysRow.holds Try.pinned (OpenSpec.ofChange beatPlaysSpec)

/-- ITS FALSE NEIGHBOUR: 'it returns false'. Refute it at one input. -/
def beatPlaysWrong : ChangeSpec := { name := "beatPlays", fn := fun _ => fun
  | [d1, d2, d3, d4, d5] => { results := [.lit (.bool false)], args := [d1, d2, d3, d4, d5] }
  | _ => none }
def BeatPlaysWrongFalsely : Prop := beatPlaysRow.holds Try.pinned (OpenSpec.ofChange beatPlaysWrong)

/-- 'comitialaw19.BeatAlive': WHATEVER THE INPUT: true; the input reads as it did. -/
def beatAliveSpec : ChangeSpec := { name := "beatAlive", fn := fun _ => fun
  | [d1, d2, d3] => { results := [.lit (.bool true)], args := [d1, d2, d3] }
  | _ => none }
def beatAliveRow : OpenClaim := { program := "ytonjpdidbgicgaa", sum := "be36ed2353f78184331f1b8c057d9574d9e225e50b9ef3ba0d6d082a2e1be81d", func := "comitia/comitialaw19.BeatAlive", spec := "beatAlive", apart := false }
def BeatAliveSaid : Prop := beatAliveRow.holds Try.pinned (OpenSpec.ofChange beatAliveSpec)

/-- ITS FALSE NEIGHBOUR: 'it returns false'. Refute it at one input. -/
def beatAliveWrong : ChangeSpec := { name := "beatAlive", fn := fun _ => fun
  | [d1, d2, d3] => { results := [.lit (.bool false)], args := [d1, d2, d3] }
  | _ => none }
def BeatAliveWrongFalsely : Prop := beatAliveRow.holds Try.pinned (OpenSpec.ofChange beatAliveWrong)

/-- 'comitialaw19.BeatWrong': WHATEVER THE INPUT: true; the input reads as it did. -/
def beatWrongSpec : ChangeSpec := { name := "beatWrong", fn := fun _ => fun
  | [d1, d2, d3, d4, d5] => { results := [.lit (.bool true)], args := [d1, d2, d3, d4, d5] }
  | _ => none }
def beatWrongRow : OpenClaim := { program := "ytonjpdidbgicgaa", sum := "be36ed2353f78184331f1b8c057d9574d9e225e50b9ef3ba0d6d082a2e1be81d", func := "comitia/comitialaw19.BeatWrong", spec := "beatWrong", apart := false }
def BeatWrongSaid : Prop := beatWrongRow.holds Try.pinned (OpenSpec.ofChange beatWrongSpec)

/-- ITS FALSE NEIGHBOUR: 'it returns false'. Refute it at one input. -/
def beatWrongWrong : ChangeSpec := { name := "beatWrong", fn := fun _ => fun
  | [d1, d2, d3, d4, d5] => { results := [.lit (.bool false)], args := [d1, d2, d3, d4, d5] }
  | _ => none }
def BeatWrongWrongFalsely : Prop := beatWrongRow.holds Try.pinned (OpenSpec.ofChange beatWrongWrong)

/-- 'comitialaw19.BeatTakes': WHATEVER THE INPUT: true; the input reads as it did. -/
def beatTakesSpec : ChangeSpec := { name := "beatTakes", fn := fun _ => fun
  | [d1, d2, d3] => { results := [.lit (.bool true)], args := [d1, d2, d3] }
  | _ => none }
def beatTakesRow : OpenClaim := { program := "ytonjpdidbgicgaa", sum := "be36ed2353f78184331f1b8c057d9574d9e225e50b9ef3ba0d6d082a2e1be81d", func := "comitia/comitialaw19.BeatTakes", spec := "beatTakes", apart := false }
def BeatTakesSaid : Prop := beatTakesRow.holds Try.pinned (OpenSpec.ofChange beatTakesSpec)

/-- ITS FALSE NEIGHBOUR: 'it returns false'. Refute it at one input. -/
def beatTakesWrong : ChangeSpec := { name := "beatTakes", fn := fun _ => fun
  | [d1, d2, d3] => { results := [.lit (.bool false)], args := [d1, d2, d3] }
  | _ => none }
def BeatTakesWrongFalsely : Prop := beatTakesRow.holds Try.pinned (OpenSpec.ofChange beatTakesWrong)

/-- 'comitialaw19.BeatMarks': WHATEVER THE INPUT: true; the input reads as it did. -/
def beatMarksSpec : ChangeSpec := { name := "beatMarks", fn := fun _ => fun
  | [d] => { results := [.lit (.bool true)], args := [d] }
  | _ => none }
def beatMarksRow : OpenClaim := { program := "ytonjpdidbgicgaa", sum := "be36ed2353f78184331f1b8c057d9574d9e225e50b9ef3ba0d6d082a2e1be81d", func := "comitia/comitialaw19.BeatMarks", spec := "beatMarks", apart := false }
def BeatMarksSaid : Prop := beatMarksRow.holds Try.pinned (OpenSpec.ofChange beatMarksSpec)

/-- ITS FALSE NEIGHBOUR: 'it returns false'. Refute it at one input. -/
def beatMarksWrong : ChangeSpec := { name := "beatMarks", fn := fun _ => fun
  | [d] => { results := [.lit (.bool false)], args := [d] }
  | _ => none }
def BeatMarksWrongFalsely : Prop := beatMarksRow.holds Try.pinned (OpenSpec.ofChange beatMarksWrong)

/- THE SECOND FORM. 'bulk': how many values and letters a reading holds, each counted each time it is reached (what is shared counts as often as it is met; a slice's spare places count too). A statement '..UptoSaid' is the law's where the arguments, and the package variables that the reading takes, are together of bulk at most 1048576: NARROWER than '..Said'. Prove '..Said' where nothing that the law and all that it calls make is longer than what came in: it says more and counts as full. Else prove '..UptoSaid'. A law counts once. -/
mutual
def uptoBulk {H : Type} : DataW H → Nat
  | .lit (.string bytes) => bytes.length + 1
  | .lit _ => 1
  | .nil => 1
  | .ptr d => uptoBulk d + 1
  | .slice elems spare => uptoBulkAll elems + uptoBulkAll spare + 1
  | .agg parts => uptoBulkAll parts + 1
  | .iface _ d => uptoBulk d + 1
  | .map entries => uptoBulkEntries entries + 1
  | .held _ => 1
def uptoBulkAll {H : Type} : List (DataW H) → Nat
  | [] => 0
  | d :: r => uptoBulk d + uptoBulkAll r
def uptoBulkEntries {H : Type} : List (Lit × DataW H) → Nat
  | [] => 0
  | x :: r => uptoBulkEntry x + uptoBulkEntries r
def uptoBulkEntry {H : Type} : Lit × DataW H → Nat
  | (.string bytes, d) => bytes.length + uptoBulk d + 1
  | (_, d) => uptoBulk d + 1
 end
def uptoSmall : (H : Type) → List (DataW H) → Bool := fun _ ds => decide (uptoBulkAll ds ≤ 1048576)
def OpenSpec.upto (s : _root_.Go.ChangeSpec) : _root_.Go.OpenSpec := { _root_.Go.OpenSpec.ofChange s with cond := some uptoSmall }

/-- 'comitialaw19.BeatPlays', WHERE WHAT IT READS IS OF BULK AT MOST 1048576: true; the input reads as it did. -/
def beatPlaysUptoRow : OpenClaim := { program := "ytonjpdidbgicgaa", sum := "be36ed2353f78184331f1b8c057d9574d9e225e50b9ef3ba0d6d082a2e1be81d", func := "comitia/comitialaw19.BeatPlays", spec := "beatPlays", apart := false, narrowed := true }
def BeatPlaysUptoSaid : Prop := beatPlaysUptoRow.holds Try.pinned (OpenSpec.upto beatPlaysSpec)

/-- 'comitialaw19.BeatAlive', WHERE WHAT IT READS IS OF BULK AT MOST 1048576: true; the input reads as it did. -/
def beatAliveUptoRow : OpenClaim := { program := "ytonjpdidbgicgaa", sum := "be36ed2353f78184331f1b8c057d9574d9e225e50b9ef3ba0d6d082a2e1be81d", func := "comitia/comitialaw19.BeatAlive", spec := "beatAlive", apart := false, narrowed := true }
def BeatAliveUptoSaid : Prop := beatAliveUptoRow.holds Try.pinned (OpenSpec.upto beatAliveSpec)

/-- 'comitialaw19.BeatWrong', WHERE WHAT IT READS IS OF BULK AT MOST 1048576: true; the input reads as it did. -/
def beatWrongUptoRow : OpenClaim := { program := "ytonjpdidbgicgaa", sum := "be36ed2353f78184331f1b8c057d9574d9e225e50b9ef3ba0d6d082a2e1be81d", func := "comitia/comitialaw19.BeatWrong", spec := "beatWrong", apart := false, narrowed := true }
def BeatWrongUptoSaid : Prop := beatWrongUptoRow.holds Try.pinned (OpenSpec.upto beatWrongSpec)

/-- 'comitialaw19.BeatTakes', WHERE WHAT IT READS IS OF BULK AT MOST 1048576: true; the input reads as it did. -/
def beatTakesUptoRow : OpenClaim := { program := "ytonjpdidbgicgaa", sum := "be36ed2353f78184331f1b8c057d9574d9e225e50b9ef3ba0d6d082a2e1be81d", func := "comitia/comitialaw19.BeatTakes", spec := "beatTakes", apart := false, narrowed := true }
def BeatTakesUptoSaid : Prop := beatTakesUptoRow.holds Try.pinned (OpenSpec.upto beatTakesSpec)

/-- 'comitialaw19.BeatMarks', WHERE WHAT IT READS IS OF BULK AT MOST 1048576: true; the input reads as it did. -/
def beatMarksUptoRow : OpenClaim := { program := "ytonjpdidbgicgaa", sum := "be36ed2353f78184331f1b8c057d9574d9e225e50b9ef3ba0d6d082a2e1be81d", func := "comitia/comitialaw19.BeatMarks", spec := "beatMarks", apart := false, narrowed := true }
def BeatMarksUptoSaid : Prop := beatMarksUptoRow.holds Try.pinned (OpenSpec.upto beatMarksSpec)

end Rows
end Go.Proofs.Ytonjpdidbgicgaa
