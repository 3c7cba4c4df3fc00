/-
  No cell of these rows narrows 'for every input' (looked for: loops, veiled, ifaces, maps, wideKeys, modest, calm, conditions, laid).
  DERIVED. THE GIVEN ROWS OF THIS SEAT. 8 by the template 'for every input the law returns true; each argument reads behind the call as it read before'; 0 by the template 'total and deterministic' (their statements: YtlccjdcmhfhoeaaTotals.lean).
  GIVEN WITH THE SEED: the statements are not yours to turn. If you find one false, say at which input.
  Laid BY PROGRAM, IN A SANDBOX (cutbox-rows.mjs): the forced cells as the released guide's own fill.sh prints them over the translation 5dbc262fdbcb0bd4… (all of the seat's roots in one cut). By AI agents, Wed Nov 11 2026. No macro, syntax, notation, axiom, sorry.
-/
import Derived.Test.YtlccjdcmhfhoeaaChecked
import GoSem.Claim
import GoSem.ClaimJoined
import GoSem.ClaimMapViews
import Derived.JoinedTies
import Derived.KernelRfl
namespace Go.Proofs.Ytlccjdcmhfhoeaa
/- THE CELL 'sum', in the pinned program and in every row, IS THE sha256 OF THE DUMP (.gsa) THAT YtlccjdcmhfhoeaaProg.lean LOADS. Nothing in Lean hashes anything: it is a label: what it is worth is what the hold of that sum in a sandbox is worth. -/
noncomputable def Try.pinned : Pinned := { name := "ytlccjdcmhfhoeaa", sum := "5dbc262fdbcb0bd455cb7e2921210d677d2ba770c5767d76c12187672f75eaa4", checked := Try.checked }
namespace Rows
def none {H : Type} : Left H := { results := [], args := [] }

/-- 'meridianlaw14.RecApart': WHATEVER THE INPUT: true; the input reads as it did. -/
def recApartSpec : ChangeSpec := { name := "recApart", fn := fun _ => fun
  | [d1, d2] => { results := [.lit (.bool true)], args := [d1, d2] }
  | _ => none }
def recApartRow : OpenClaim := { program := "ytlccjdcmhfhoeaa", sum := "5dbc262fdbcb0bd455cb7e2921210d677d2ba770c5767d76c12187672f75eaa4", func := "meridian/meridianlaw14.RecApart", spec := "recApart", apart := false }
def RecApartSaid : Prop := recApartRow.holds Try.pinned (OpenSpec.ofChange recApartSpec)

/-- ITS FALSE NEIGHBOUR: 'it returns false'. Refute it at one input. -/
def recApartWrong : ChangeSpec := { name := "recApart", fn := fun _ => fun
  | [d1, d2] => { results := [.lit (.bool false)], args := [d1, d2] }
  | _ => none }
def RecApartWrongFalsely : Prop := recApartRow.holds Try.pinned (OpenSpec.ofChange recApartWrong)

/-- 'meridianlaw14.RecSame': WHATEVER THE INPUT: true; the input reads as it did. -/
def recSameSpec : ChangeSpec := { name := "recSame", fn := fun _ => fun
  | [d1, d2] => { results := [.lit (.bool true)], args := [d1, d2] }
  | _ => none }
def recSameRow : OpenClaim := { program := "ytlccjdcmhfhoeaa", sum := "5dbc262fdbcb0bd455cb7e2921210d677d2ba770c5767d76c12187672f75eaa4", func := "meridian/meridianlaw14.RecSame", spec := "recSame", apart := false }
def RecSameSaid : Prop := recSameRow.holds Try.pinned (OpenSpec.ofChange recSameSpec)

/-- ITS FALSE NEIGHBOUR: 'it returns false'. Refute it at one input. -/
def recSameWrong : ChangeSpec := { name := "recSame", fn := fun _ => fun
  | [d1, d2] => { results := [.lit (.bool false)], args := [d1, d2] }
  | _ => none }
def RecSameWrongFalsely : Prop := recSameRow.holds Try.pinned (OpenSpec.ofChange recSameWrong)

/-- 'meridianlaw14.RecEncodes': WHATEVER THE INPUT: true; the input reads as it did. -/
def recEncodesSpec : ChangeSpec := { name := "recEncodes", fn := fun _ => fun
  | [d] => { results := [.lit (.bool true)], args := [d] }
  | _ => none }
def recEncodesRow : OpenClaim := { program := "ytlccjdcmhfhoeaa", sum := "5dbc262fdbcb0bd455cb7e2921210d677d2ba770c5767d76c12187672f75eaa4", func := "meridian/meridianlaw14.RecEncodes", spec := "recEncodes", apart := false }
def RecEncodesSaid : Prop := recEncodesRow.holds Try.pinned (OpenSpec.ofChange recEncodesSpec)

/-- ITS FALSE NEIGHBOUR: 'it returns false'. Refute it at one input. -/
def recEncodesWrong : ChangeSpec := { name := "recEncodes", fn := fun _ => fun
  | [d] => { results := [.lit (.bool false)], args := [d] }
  | _ => none }
def RecEncodesWrongFalsely : Prop := recEncodesRow.holds Try.pinned (OpenSpec.ofChange recEncodesWrong)

/-- 'meridianlaw14.RecDecodes': WHATEVER THE INPUT: true; the input reads as it did. -/
def recDecodesSpec : ChangeSpec := { name := "recDecodes", fn := fun _ => fun
  | [d] => { results := [.lit (.bool true)], args := [d] }
  | _ => none }
def recDecodesRow : OpenClaim := { program := "ytlccjdcmhfhoeaa", sum := "5dbc262fdbcb0bd455cb7e2921210d677d2ba770c5767d76c12187672f75eaa4", func := "meridian/meridianlaw14.RecDecodes", spec := "recDecodes", apart := false }
def RecDecodesSaid : Prop := recDecodesRow.holds Try.pinned (OpenSpec.ofChange recDecodesSpec)

/-- ITS FALSE NEIGHBOUR: 'it returns false'. Refute it at one input. -/
def recDecodesWrong : ChangeSpec := { name := "recDecodes", fn := fun _ => fun
  | [d] => { results := [.lit (.bool false)], args := [d] }
  | _ => none }
def RecDecodesWrongFalsely : Prop := recDecodesRow.holds Try.pinned (OpenSpec.ofChange recDecodesWrong)

/-- 'meridianlaw14.RecCuts': WHATEVER THE INPUT: true; the input reads as it did. -/
def recCutsSpec : ChangeSpec := { name := "recCuts", fn := fun _ => fun
  | [d1, d2, d3] => { results := [.lit (.bool true)], args := [d1, d2, d3] }
  | _ => none }
def recCutsRow : OpenClaim := { program := "ytlccjdcmhfhoeaa", sum := "5dbc262fdbcb0bd455cb7e2921210d677d2ba770c5767d76c12187672f75eaa4", func := "meridian/meridianlaw14.RecCuts", spec := "recCuts", apart := false }
def RecCutsSaid : Prop := recCutsRow.holds Try.pinned (OpenSpec.ofChange recCutsSpec)

/-- ITS FALSE NEIGHBOUR: 'it returns false'. Refute it at one input. -/
def recCutsWrong : ChangeSpec := { name := "recCuts", fn := fun _ => fun
  | [d1, d2, d3] => { results := [.lit (.bool false)], args := [d1, d2, d3] }
  | _ => none }
def RecCutsWrongFalsely : Prop := recCutsRow.holds Try.pinned (OpenSpec.ofChange recCutsWrong)

/-- 'meridianlaw14.RecReads': WHATEVER THE INPUT: true; the input reads as it did. -/
def recReadsSpec : ChangeSpec := { name := "recReads", fn := fun _ => fun
  | [d] => { results := [.lit (.bool true)], args := [d] }
  | _ => none }
def recReadsRow : OpenClaim := { program := "ytlccjdcmhfhoeaa", sum := "5dbc262fdbcb0bd455cb7e2921210d677d2ba770c5767d76c12187672f75eaa4", func := "meridian/meridianlaw14.RecReads", spec := "recReads", apart := false }
def RecReadsSaid : Prop := recReadsRow.holds Try.pinned (OpenSpec.ofChange recReadsSpec)

/-- ITS FALSE NEIGHBOUR: 'it returns false'. Refute it at one input. -/
def recReadsWrong : ChangeSpec := { name := "recReads", fn := fun _ => fun
  | [d] => { results := [.lit (.bool false)], args := [d] }
  | _ => none }
def RecReadsWrongFalsely : Prop := recReadsRow.holds Try.pinned (OpenSpec.ofChange recReadsWrong)

/-- 'meridianlaw14.RecLists': WHATEVER THE INPUT: true; the input reads as it did. -/
def recListsSpec : ChangeSpec := { name := "recLists", fn := fun _ => fun
  | [d] => { results := [.lit (.bool true)], args := [d] }
  | _ => none }
def recListsRow : OpenClaim := { program := "ytlccjdcmhfhoeaa", sum := "5dbc262fdbcb0bd455cb7e2921210d677d2ba770c5767d76c12187672f75eaa4", func := "meridian/meridianlaw14.RecLists", spec := "recLists", apart := false }
def RecListsSaid : Prop := recListsRow.holds Try.pinned (OpenSpec.ofChange recListsSpec)

/-- ITS FALSE NEIGHBOUR: 'it returns false'. Refute it at one input. -/
def recListsWrong : ChangeSpec := { name := "recLists", fn := fun _ => fun
  | [d] => { results := [.lit (.bool false)], args := [d] }
  | _ => none }
def RecListsWrongFalsely : Prop := recListsRow.holds Try.pinned (OpenSpec.ofChange recListsWrong)

/-- 'meridianlaw14.RecMost': WHATEVER THE INPUT: true; the input reads as it did. -/
def recMostSpec : ChangeSpec := { name := "recMost", fn := fun _ => fun
  | [d1, d2] => { results := [.lit (.bool true)], args := [d1, d2] }
  | _ => none }
def recMostRow : OpenClaim := { program := "ytlccjdcmhfhoeaa", sum := "5dbc262fdbcb0bd455cb7e2921210d677d2ba770c5767d76c12187672f75eaa4", func := "meridian/meridianlaw14.RecMost", spec := "recMost", apart := false }
def RecMostSaid : Prop := recMostRow.holds Try.pinned (OpenSpec.ofChange recMostSpec)

/-- ITS FALSE NEIGHBOUR: 'it returns false'. Refute it at one input. -/
def recMostWrong : ChangeSpec := { name := "recMost", fn := fun _ => fun
  | [d1, d2] => { results := [.lit (.bool false)], args := [d1, d2] }
  | _ => none }
def RecMostWrongFalsely : Prop := recMostRow.holds Try.pinned (OpenSpec.ofChange recMostWrong)

/- THE SECOND FORM. 'bulk': how many values and letters a reading holds, each counted each time it is reached (what is shared counts as often as it is met; a slice's spare places count too). A statement '..UptoSaid' is the law's where the arguments, and the package variables that the reading takes, are together of bulk at most 1048576: NARROWER than '..Said'. Prove '..Said' where nothing that the law and all that it calls make is longer than what came in: it says more and counts as full. Else prove '..UptoSaid'. A law counts once. -/
mutual
def uptoBulk {H : Type} : DataW H → Nat
  | .lit (.string bytes) => bytes.length + 1
  | .lit _ => 1
  | .nil => 1
  | .ptr d => uptoBulk d + 1
  | .slice elems spare => uptoBulkAll elems + uptoBulkAll spare + 1
  | .agg parts => uptoBulkAll parts + 1
  | .iface _ d => uptoBulk d + 1
  | .map entries => uptoBulkEntries entries + 1
  | .held _ => 1
def uptoBulkAll {H : Type} : List (DataW H) → Nat
  | [] => 0
  | d :: r => uptoBulk d + uptoBulkAll r
def uptoBulkEntries {H : Type} : List (Lit × DataW H) → Nat
  | [] => 0
  | x :: r => uptoBulkEntry x + uptoBulkEntries r
def uptoBulkEntry {H : Type} : Lit × DataW H → Nat
  | (.string bytes, d) => bytes.length + uptoBulk d + 1
  | (_, d) => uptoBulk d + 1
 end
def uptoSmall : (H : Type) → List (DataW H) → Bool := fun _ ds => decide (uptoBulkAll ds ≤ 1048576)
def OpenSpec.upto (s : _root_.Go.ChangeSpec) : _root_.Go.OpenSpec := { _root_.Go.OpenSpec.ofChange s with cond := some uptoSmall }

/-- 'meridianlaw14.RecApart', WHERE WHAT IT READS IS OF BULK AT MOST 1048576: true; the input reads as it did. -/
def recApartUptoRow : OpenClaim := { program := "ytlccjdcmhfhoeaa", sum := "5dbc262fdbcb0bd455cb7e2921210d677d2ba770c5767d76c12187672f75eaa4", func := "meridian/meridianlaw14.RecApart", spec := "recApart", apart := false, narrowed := true }
def RecApartUptoSaid : Prop := recApartUptoRow.holds Try.pinned (OpenSpec.upto recApartSpec)

/-- 'meridianlaw14.RecSame', WHERE WHAT IT READS IS OF BULK AT MOST 1048576: true; the input reads as it did. -/
def recSameUptoRow : OpenClaim := { program := "ytlccjdcmhfhoeaa", sum := "5dbc262fdbcb0bd455cb7e2921210d677d2ba770c5767d76c12187672f75eaa4", func := "meridian/meridianlaw14.RecSame", spec := "recSame", apart := false, narrowed := true }
def RecSameUptoSaid : Prop := recSameUptoRow.holds Try.pinned (OpenSpec.upto recSameSpec)

/-- 'meridianlaw14.RecEncodes', WHERE WHAT IT READS IS OF BULK AT MOST 1048576: true; the input reads as it did. -/
def recEncodesUptoRow : OpenClaim := { program := "ytlccjdcmhfhoeaa", sum := "5dbc262fdbcb0bd455cb7e2921210d677d2ba770c5767d76c12187672f75eaa4", func := "meridian/meridianlaw14.RecEncodes", spec := "recEncodes", apart := false, narrowed := true }
def RecEncodesUptoSaid : Prop := recEncodesUptoRow.holds Try.pinned (OpenSpec.upto recEncodesSpec)

/-- 'meridianlaw14.RecDecodes', WHERE WHAT IT READS IS OF BULK AT MOST 1048576: true; the input reads as it did. -/
def recDecodesUptoRow : OpenClaim := { program := "ytlccjdcmhfhoeaa", sum := "5dbc262fdbcb0bd455cb7e2921210d677d2ba770c5767d76c12187672f75eaa4", func := "meridian/meridianlaw14.RecDecodes", spec := "recDecodes", apart := false, narrowed := true }
def RecDecodesUptoSaid : Prop := recDecodesUptoRow.holds Try.pinned (OpenSpec.upto recDecodesSpec)

/-- 'meridianlaw14.RecCuts', WHERE WHAT IT READS IS OF BULK AT MOST 1048576: true; the input reads as it did. -/
def recCutsUptoRow : OpenClaim := { program := "ytlccjdcmhfhoeaa", sum := "5dbc262fdbcb0bd455cb7e2921210d677d2ba770c5767d76c12187672f75eaa4", func := "meridian/meridianlaw14.RecCuts", spec := "recCuts", apart := false, narrowed := true }
def RecCutsUptoSaid : Prop := recCutsUptoRow.holds Try.pinned (OpenSpec.upto recCutsSpec)

/-- 'meridianlaw14.RecReads', WHERE WHAT IT READS IS OF BULK AT MOST 1048576: true; the input reads as it did. -/
def recReadsUptoRow : OpenClaim := { program := "ytlccjdcmhfhoeaa", sum := "5dbc262fdbcb0bd455cb7e2921210d677d2ba770c5767d76c12187672f75eaa4", func := "meridian/meridianlaw14.RecReads", spec := "recReads", apart := false, narrowed := true }
def RecReadsUptoSaid : Prop := recReadsUptoRow.holds Try.pinned (OpenSpec.upto recReadsSpec)

/-- 'meridianlaw14.RecLists', WHERE WHAT IT READS IS OF BULK AT MOST 1048576: true; the input reads as it did. -/
def recListsUptoRow : OpenClaim := { program := "ytlccjdcmhfhoeaa", sum := "5dbc262fdbcb0bd455cb7e2921210d677d2ba770c5767d76c12187672f75eaa4", func := "meridian/meridianlaw14.RecLists", spec := "recLists", apart := false, narrowed := true }
def RecListsUptoSaid : Prop := recListsUptoRow.holds Try.pinned (OpenSpec.upto recListsSpec)

/-- 'meridianlaw14.RecMost', WHERE WHAT IT READS IS OF BULK AT MOST 1048576: true; the input reads as it did. -/
def recMostUptoRow : OpenClaim := { program := "ytlccjdcmhfhoeaa", sum := "5dbc262fdbcb0bd455cb7e2921210d677d2ba770c5767d76c12187672f75eaa4", func := "meridian/meridianlaw14.RecMost", spec := "recMost", apart := false, narrowed := true }
def RecMostUptoSaid : Prop := recMostUptoRow.holds Try.pinned (OpenSpec.upto recMostSpec)

end Rows
end Go.Proofs.Ytlccjdcmhfhoeaa
