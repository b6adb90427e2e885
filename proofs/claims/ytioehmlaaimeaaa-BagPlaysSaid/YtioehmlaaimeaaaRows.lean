/-
  No cell of these rows narrows 'for every input' (looked for: loops, veiled, ifaces, maps, wideKeys, modest, calm, conditions, laid).
  DERIVED. THE GIVEN ROWS OF THIS SEAT. 4 by the template 'for every input the law returns true; each argument reads behind the call as it read before'; 0 by the template 'total and deterministic' (their statements: YtioehmlaaimeaaaTotals.lean).
  GIVEN WITH THE SEED: the statements are not yours to turn. If you find one false, say at which input.
  Laid BY PROGRAM, IN A SANDBOX (cutbox-rows.mjs): the forced cells as the released guide's own fill.sh prints them over the translation 82ad45ad8d293a18… (all of the seat's roots in one cut). By AI agents, Wed Nov 11 2026. No macro, syntax, notation, axiom, sorry.
-/
import Derived.Test.YtioehmlaaimeaaaChecked
import GoSem.Claim
import GoSem.ClaimJoined
import GoSem.ClaimMapViews
import Derived.JoinedTies
import Derived.KernelRfl
namespace Go.Proofs.Ytioehmlaaimeaaa
/- THE CELL 'sum', in the pinned program and in every row, IS THE sha256 OF THE DUMP (.gsa) THAT YtioehmlaaimeaaaProg.lean LOADS. Nothing in Lean hashes anything: it is a label: what it is worth is what the hold of that sum in a sandbox is worth. -/
noncomputable def Try.pinned : Pinned := { name := "ytioehmlaaimeaaa", sum := "82ad45ad8d293a18b6c2c44d5908916f02f632e7f55f5925ed378c3613e2ff5b", checked := Try.checked }
namespace Rows
def none {H : Type} : Left H := { results := [], args := [] }

/-- 'comitialaw21.BagPlays': WHATEVER THE INPUT: true; the input reads as it did. -/
def bagPlaysSpec : ChangeSpec := { name := "bagPlays", fn := fun _ => fun
  | [d1, d2, d3] => { results := [.lit (.bool true)], args := [d1, d2, d3] }
  | _ => none }
def bagPlaysRow : OpenClaim := { program := "ytioehmlaaimeaaa", sum := "82ad45ad8d293a18b6c2c44d5908916f02f632e7f55f5925ed378c3613e2ff5b", func := "comitia/comitialaw21.BagPlays", spec := "bagPlays", unfollowed := true, recurses := true, apart := false }
def BagPlaysSaid : Prop := bagPlaysRow.holds Try.pinned (OpenSpec.ofChange bagPlaysSpec)

/-- ITS FALSE NEIGHBOUR: 'it returns false'. Refute it at one input. -/
def bagPlaysWrong : ChangeSpec := { name := "bagPlays", fn := fun _ => fun
  | [d1, d2, d3] => { results := [.lit (.bool false)], args := [d1, d2, d3] }
  | _ => none }
def BagPlaysWrongFalsely : Prop := bagPlaysRow.holds Try.pinned (OpenSpec.ofChange bagPlaysWrong)

/-- 'comitialaw21.BagOnce': WHATEVER THE INPUT: true; the input reads as it did. -/
def bagOnceSpec : ChangeSpec := { name := "bagOnce", fn := fun _ => fun
  | [d1, d2] => { results := [.lit (.bool true)], args := [d1, d2] }
  | _ => none }
def bagOnceRow : OpenClaim := { program := "ytioehmlaaimeaaa", sum := "82ad45ad8d293a18b6c2c44d5908916f02f632e7f55f5925ed378c3613e2ff5b", func := "comitia/comitialaw21.BagOnce", spec := "bagOnce", unfollowed := true, recurses := true, apart := false }
def BagOnceSaid : Prop := bagOnceRow.holds Try.pinned (OpenSpec.ofChange bagOnceSpec)

/-- ITS FALSE NEIGHBOUR: 'it returns false'. Refute it at one input. -/
def bagOnceWrong : ChangeSpec := { name := "bagOnce", fn := fun _ => fun
  | [d1, d2] => { results := [.lit (.bool false)], args := [d1, d2] }
  | _ => none }
def BagOnceWrongFalsely : Prop := bagOnceRow.holds Try.pinned (OpenSpec.ofChange bagOnceWrong)

/-- 'comitialaw21.BagRoom': WHATEVER THE INPUT: true; the input reads as it did. -/
def bagRoomSpec : ChangeSpec := { name := "bagRoom", fn := fun _ => fun
  | [d1, d2, d3, d4, d5] => { results := [.lit (.bool true)], args := [d1, d2, d3, d4, d5] }
  | _ => none }
def bagRoomRow : OpenClaim := { program := "ytioehmlaaimeaaa", sum := "82ad45ad8d293a18b6c2c44d5908916f02f632e7f55f5925ed378c3613e2ff5b", func := "comitia/comitialaw21.BagRoom", spec := "bagRoom", unfollowed := true, recurses := true, apart := false }
def BagRoomSaid : Prop := bagRoomRow.holds Try.pinned (OpenSpec.ofChange bagRoomSpec)

/-- ITS FALSE NEIGHBOUR: 'it returns false'. Refute it at one input. -/
def bagRoomWrong : ChangeSpec := { name := "bagRoom", fn := fun _ => fun
  | [d1, d2, d3, d4, d5] => { results := [.lit (.bool false)], args := [d1, d2, d3, d4, d5] }
  | _ => none }
def BagRoomWrongFalsely : Prop := bagRoomRow.holds Try.pinned (OpenSpec.ofChange bagRoomWrong)

/-- 'comitialaw21.BagOldest': WHATEVER THE INPUT: true; the input reads as it did. -/
def bagOldestSpec : ChangeSpec := { name := "bagOldest", fn := fun _ => fun
  | [d1, d2] => { results := [.lit (.bool true)], args := [d1, d2] }
  | _ => none }
def bagOldestRow : OpenClaim := { program := "ytioehmlaaimeaaa", sum := "82ad45ad8d293a18b6c2c44d5908916f02f632e7f55f5925ed378c3613e2ff5b", func := "comitia/comitialaw21.BagOldest", spec := "bagOldest", unfollowed := true, recurses := true, apart := false }
def BagOldestSaid : Prop := bagOldestRow.holds Try.pinned (OpenSpec.ofChange bagOldestSpec)

/-- ITS FALSE NEIGHBOUR: 'it returns false'. Refute it at one input. -/
def bagOldestWrong : ChangeSpec := { name := "bagOldest", fn := fun _ => fun
  | [d1, d2] => { results := [.lit (.bool false)], args := [d1, d2] }
  | _ => none }
def BagOldestWrongFalsely : Prop := bagOldestRow.holds Try.pinned (OpenSpec.ofChange bagOldestWrong)

/- THE SECOND FORM. 'bulk': how many values and letters a reading holds, each counted each time it is reached (what is shared counts as often as it is met; a slice's spare places count too). A statement '..UptoSaid' is the law's where the arguments, and the package variables that the reading takes, are together of bulk at most 1048576: NARROWER than '..Said'. Prove '..Said' where nothing that the law and all that it calls make is longer than what came in: it says more and counts as full. Else prove '..UptoSaid'. A law counts once. -/
mutual
def uptoBulk {H : Type} : DataW H → Nat
  | .lit (.string bytes) => bytes.length + 1
  | .lit _ => 1
  | .nil => 1
  | .ptr d => uptoBulk d + 1
  | .slice elems spare => uptoBulkAll elems + uptoBulkAll spare + 1
  | .agg parts => uptoBulkAll parts + 1
  | .iface _ d => uptoBulk d + 1
  | .map entries => uptoBulkEntries entries + 1
  | .held _ => 1
def uptoBulkAll {H : Type} : List (DataW H) → Nat
  | [] => 0
  | d :: r => uptoBulk d + uptoBulkAll r
def uptoBulkEntries {H : Type} : List (Lit × DataW H) → Nat
  | [] => 0
  | x :: r => uptoBulkEntry x + uptoBulkEntries r
def uptoBulkEntry {H : Type} : Lit × DataW H → Nat
  | (.string bytes, d) => bytes.length + uptoBulk d + 1
  | (_, d) => uptoBulk d + 1
 end
def uptoSmall : (H : Type) → List (DataW H) → Bool := fun _ ds => decide (uptoBulkAll ds ≤ 1048576)
def OpenSpec.upto (s : _root_.Go.ChangeSpec) : _root_.Go.OpenSpec := { _root_.Go.OpenSpec.ofChange s with cond := some uptoSmall }

/-- 'comitialaw21.BagPlays', WHERE WHAT IT READS IS OF BULK AT MOST 1048576: true; the input reads as it did. -/
def bagPlaysUptoRow : OpenClaim := { program := "ytioehmlaaimeaaa", sum := "82ad45ad8d293a18b6c2c44d5908916f02f632e7f55f5925ed378c3613e2ff5b", func := "comitia/comitialaw21.BagPlays", spec := "bagPlays", unfollowed := true, recurses := true, apart := false, narrowed := true }
def BagPlaysUptoSaid : Prop := bagPlaysUptoRow.holds Try.pinned (OpenSpec.upto bagPlaysSpec)

/-- 'comitialaw21.BagOnce', WHERE WHAT IT READS IS OF BULK AT MOST 1048576: true; the input reads as it did. -/
def bagOnceUptoRow : OpenClaim := { program := "ytioehmlaaimeaaa", sum := "82ad45ad8d293a18b6c2c44d5908916f02f632e7f55f5925ed378c3613e2ff5b", func := "comitia/comitialaw21.BagOnce", spec := "bagOnce", unfollowed := true, recurses := true, apart := false, narrowed := true }
def BagOnceUptoSaid : Prop := bagOnceUptoRow.holds Try.pinned (OpenSpec.upto bagOnceSpec)

/-- 'comitialaw21.BagRoom', WHERE WHAT IT READS IS OF BULK AT MOST 1048576: true; the input reads as it did. -/
def bagRoomUptoRow : OpenClaim := { program := "ytioehmlaaimeaaa", sum := "82ad45ad8d293a18b6c2c44d5908916f02f632e7f55f5925ed378c3613e2ff5b", func := "comitia/comitialaw21.BagRoom", spec := "bagRoom", unfollowed := true, recurses := true, apart := false, narrowed := true }
def BagRoomUptoSaid : Prop := bagRoomUptoRow.holds Try.pinned (OpenSpec.upto bagRoomSpec)

/-- 'comitialaw21.BagOldest', WHERE WHAT IT READS IS OF BULK AT MOST 1048576: true; the input reads as it did. -/
def bagOldestUptoRow : OpenClaim := { program := "ytioehmlaaimeaaa", sum := "82ad45ad8d293a18b6c2c44d5908916f02f632e7f55f5925ed378c3613e2ff5b", func := "comitia/comitialaw21.BagOldest", spec := "bagOldest", unfollowed := true, recurses := true, apart := false, narrowed := true }
def BagOldestUptoSaid : Prop := bagOldestUptoRow.holds Try.pinned (OpenSpec.upto bagOldestSpec)

end Rows
end Go.Proofs.Ytioehmlaaimeaaa
