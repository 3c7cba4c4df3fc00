/-
  No cell of these rows narrows 'for every input' (looked for: loops, veiled, ifaces, maps, wideKeys, modest, calm, conditions, laid).
  DERIVED. THE GIVEN ROWS OF THIS SEAT. 5 by the template 'for every input the law returns true; each argument reads behind the call as it read before'; 0 by the template 'total and deterministic' (their statements: YtdlpcdehmpkedaaTotals.lean).
  GIVEN WITH THE SEED: the statements are not yours to turn. If you find one false, say at which input.
  Laid BY PROGRAM, IN A SANDBOX (cutbox-rows.mjs): the forced cells as the released guide's own fill.sh prints them over the translation 24719198b22cdacd… (all of the seat's roots in one cut). By AI agents, Wed Nov 11 2026. No macro, syntax, notation, axiom, sorry.
-/
import Derived.Test.YtdlpcdehmpkedaaChecked
import GoSem.Claim
import GoSem.ClaimJoined
import GoSem.ClaimMapViews
import Derived.JoinedTies
import Derived.KernelRfl
namespace Go.Proofs.Ytdlpcdehmpkedaa
/- THE CELL 'sum', in the pinned program and in every row, IS THE sha256 OF THE DUMP (.gsa) THAT YtdlpcdehmpkedaaProg.lean LOADS. Nothing in Lean hashes anything: it is a label: what it is worth is what the hold of that sum in a sandbox is worth. -/
noncomputable def Try.pinned : Pinned := { name := "ytdlpcdehmpkedaa", sum := "24719198b22cdacdc11dd98f6d4bbfcadf502588cae5b990bcfa28eccc8bb839", checked := Try.checked }
namespace Rows
def none {H : Type} : Left H := { results := [], args := [] }

/-- 'meridianlaw20.VecLeast': WHATEVER THE INPUT: true; the input reads as it did. -/
def vecLeastSpec : ChangeSpec := { name := "vecLeast", fn := fun _ => fun
  | [d] => { results := [.lit (.bool true)], args := [d] }
  | _ => none }
def vecLeastRow : OpenClaim := { program := "ytdlpcdehmpkedaa", sum := "24719198b22cdacdc11dd98f6d4bbfcadf502588cae5b990bcfa28eccc8bb839", func := "meridian/meridianlaw20.VecLeast", spec := "vecLeast", apart := false }
def VecLeastSaid : Prop := vecLeastRow.holds Try.pinned (OpenSpec.ofChange vecLeastSpec)

/-- ITS FALSE NEIGHBOUR: 'it returns false'. Refute it at one input. -/
def vecLeastWrong : ChangeSpec := { name := "vecLeast", fn := fun _ => fun
  | [d] => { results := [.lit (.bool false)], args := [d] }
  | _ => none }
def VecLeastWrongFalsely : Prop := vecLeastRow.holds Try.pinned (OpenSpec.ofChange vecLeastWrong)

/-- 'meridianlaw20.VecStable': WHATEVER THE INPUT: true; the input reads as it did. -/
def vecStableSpec : ChangeSpec := { name := "vecStable", fn := fun _ => fun
  | [d] => { results := [.lit (.bool true)], args := [d] }
  | _ => none }
def vecStableRow : OpenClaim := { program := "ytdlpcdehmpkedaa", sum := "24719198b22cdacdc11dd98f6d4bbfcadf502588cae5b990bcfa28eccc8bb839", func := "meridian/meridianlaw20.VecStable", spec := "vecStable", apart := false }
def VecStableSaid : Prop := vecStableRow.holds Try.pinned (OpenSpec.ofChange vecStableSpec)

/-- ITS FALSE NEIGHBOUR: 'it returns false'. Refute it at one input. -/
def vecStableWrong : ChangeSpec := { name := "vecStable", fn := fun _ => fun
  | [d] => { results := [.lit (.bool false)], args := [d] }
  | _ => none }
def VecStableWrongFalsely : Prop := vecStableRow.holds Try.pinned (OpenSpec.ofChange vecStableWrong)

/-- 'meridianlaw20.VecPlays': WHATEVER THE INPUT: true; the input reads as it did. -/
def vecPlaysSpec : ChangeSpec := { name := "vecPlays", fn := fun _ => fun
  | [d1, d2] => { results := [.lit (.bool true)], args := [d1, d2] }
  | _ => none }
def vecPlaysRow : OpenClaim := { program := "ytdlpcdehmpkedaa", sum := "24719198b22cdacdc11dd98f6d4bbfcadf502588cae5b990bcfa28eccc8bb839", func := "meridian/meridianlaw20.VecPlays", spec := "vecPlays", apart := false }
def VecPlaysSaid : Prop := vecPlaysRow.holds Try.pinned (OpenSpec.ofChange vecPlaysSpec)

/-- ITS FALSE NEIGHBOUR: 'it returns false'. Refute it at one input. -/
def vecPlaysWrong : ChangeSpec := { name := "vecPlays", fn := fun _ => fun
  | [d1, d2] => { results := [.lit (.bool false)], args := [d1, d2] }
  | _ => none }
def VecPlaysWrongFalsely : Prop := vecPlaysRow.holds Try.pinned (OpenSpec.ofChange vecPlaysWrong)

/-- 'meridianlaw20.VecOfNothing': WHATEVER THE INPUT: true; the input reads as it did. -/
def vecOfNothingSpec : ChangeSpec := { name := "vecOfNothing", fn := fun _ => fun
  | [d1, d2] => { results := [.lit (.bool true)], args := [d1, d2] }
  | _ => none }
def vecOfNothingRow : OpenClaim := { program := "ytdlpcdehmpkedaa", sum := "24719198b22cdacdc11dd98f6d4bbfcadf502588cae5b990bcfa28eccc8bb839", func := "meridian/meridianlaw20.VecOfNothing", spec := "vecOfNothing", apart := false }
def VecOfNothingSaid : Prop := vecOfNothingRow.holds Try.pinned (OpenSpec.ofChange vecOfNothingSpec)

/-- ITS FALSE NEIGHBOUR: 'it returns false'. Refute it at one input. -/
def vecOfNothingWrong : ChangeSpec := { name := "vecOfNothing", fn := fun _ => fun
  | [d1, d2] => { results := [.lit (.bool false)], args := [d1, d2] }
  | _ => none }
def VecOfNothingWrongFalsely : Prop := vecOfNothingRow.holds Try.pinned (OpenSpec.ofChange vecOfNothingWrong)

/-- 'meridianlaw20.VecTurns': WHATEVER THE INPUT: true; the input reads as it did. -/
def vecTurnsSpec : ChangeSpec := { name := "vecTurns", fn := fun _ => fun
  | [d1, d2] => { results := [.lit (.bool true)], args := [d1, d2] }
  | _ => none }
def vecTurnsRow : OpenClaim := { program := "ytdlpcdehmpkedaa", sum := "24719198b22cdacdc11dd98f6d4bbfcadf502588cae5b990bcfa28eccc8bb839", func := "meridian/meridianlaw20.VecTurns", spec := "vecTurns", apart := false }
def VecTurnsSaid : Prop := vecTurnsRow.holds Try.pinned (OpenSpec.ofChange vecTurnsSpec)

/-- ITS FALSE NEIGHBOUR: 'it returns false'. Refute it at one input. -/
def vecTurnsWrong : ChangeSpec := { name := "vecTurns", fn := fun _ => fun
  | [d1, d2] => { results := [.lit (.bool false)], args := [d1, d2] }
  | _ => none }
def VecTurnsWrongFalsely : Prop := vecTurnsRow.holds Try.pinned (OpenSpec.ofChange vecTurnsWrong)

/- THE SECOND FORM. 'bulk': how many values and letters a reading holds, each counted each time it is reached (what is shared counts as often as it is met; a slice's spare places count too). A statement '..UptoSaid' is the law's where the arguments, and the package variables that the reading takes, are together of bulk at most 1048576: NARROWER than '..Said'. Prove '..Said' where nothing that the law and all that it calls make is longer than what came in: it says more and counts as full. Else prove '..UptoSaid'. A law counts once. -/
mutual
def uptoBulk {H : Type} : DataW H → Nat
  | .lit (.string bytes) => bytes.length + 1
  | .lit _ => 1
  | .nil => 1
  | .ptr d => uptoBulk d + 1
  | .slice elems spare => uptoBulkAll elems + uptoBulkAll spare + 1
  | .agg parts => uptoBulkAll parts + 1
  | .iface _ d => uptoBulk d + 1
  | .map entries => uptoBulkEntries entries + 1
  | .held _ => 1
def uptoBulkAll {H : Type} : List (DataW H) → Nat
  | [] => 0
  | d :: r => uptoBulk d + uptoBulkAll r
def uptoBulkEntries {H : Type} : List (Lit × DataW H) → Nat
  | [] => 0
  | x :: r => uptoBulkEntry x + uptoBulkEntries r
def uptoBulkEntry {H : Type} : Lit × DataW H → Nat
  | (.string bytes, d) => bytes.length + uptoBulk d + 1
  | (_, d) => uptoBulk d + 1
 end
def uptoSmall : (H : Type) → List (DataW H) → Bool := fun _ ds => decide (uptoBulkAll ds ≤ 1048576)
def OpenSpec.upto (s : _root_.Go.ChangeSpec) : _root_.Go.OpenSpec := { _root_.Go.OpenSpec.ofChange s with cond := some uptoSmall }

/-- 'meridianlaw20.VecLeast', WHERE WHAT IT READS IS OF BULK AT MOST 1048576: true; the input reads as it did. -/
def vecLeastUptoRow : OpenClaim := { program := "ytdlpcdehmpkedaa", sum := "24719198b22cdacdc11dd98f6d4bbfcadf502588cae5b990bcfa28eccc8bb839", func := "meridian/meridianlaw20.VecLeast", spec := "vecLeast", apart := false, narrowed := true }
def VecLeastUptoSaid : Prop := vecLeastUptoRow.holds Try.pinned (OpenSpec.upto vecLeastSpec)

/-- 'meridianlaw20.VecStable', WHERE WHAT IT READS IS OF BULK AT MOST 1048576: true; the input reads as it did. -/
def vecStableUptoRow : OpenClaim := { program := "ytdlpcdehmpkedaa", sum := "24719198b22cdacdc11dd98f6d4bbfcadf502588cae5b990bcfa28eccc8bb839", func := "meridian/meridianlaw20.VecStable", spec := "vecStable", apart := false, narrowed := true }
def VecStableUptoSaid : Prop := vecStableUptoRow.holds Try.pinned (OpenSpec.upto vecStableSpec)

/-- 'meridianlaw20.VecPlays', WHERE WHAT IT READS IS OF BULK AT MOST 1048576: true; the input reads as it did. -/
def vecPlaysUptoRow : OpenClaim := { program := "ytdlpcdehmpkedaa", sum := "24719198b22cdacdc11dd98f6d4bbfcadf502588cae5b990bcfa28eccc8bb839", func := "meridian/meridianlaw20.VecPlays", spec := "vecPlays", apart := false, narrowed := true }
def VecPlaysUptoSaid : Prop := vecPlaysUptoRow.holds Try.pinned (OpenSpec.upto vecPlaysSpec)

/-- 'meridianlaw20.VecOfNothing', WHERE WHAT IT READS IS OF BULK AT MOST 1048576: true; the input reads as it did. -/
def vecOfNothingUptoRow : OpenClaim := { program := "ytdlpcdehmpkedaa", sum := "24719198b22cdacdc11dd98f6d4bbfcadf502588cae5b990bcfa28eccc8bb839", func := "meridian/meridianlaw20.VecOfNothing", spec := "vecOfNothing", apart := false, narrowed := true }
def VecOfNothingUptoSaid : Prop := vecOfNothingUptoRow.holds Try.pinned (OpenSpec.upto vecOfNothingSpec)

/-- 'meridianlaw20.VecTurns', WHERE WHAT IT READS IS OF BULK AT MOST 1048576: true; the input reads as it did. -/
def vecTurnsUptoRow : OpenClaim := { program := "ytdlpcdehmpkedaa", sum := "24719198b22cdacdc11dd98f6d4bbfcadf502588cae5b990bcfa28eccc8bb839", func := "meridian/meridianlaw20.VecTurns", spec := "vecTurns", apart := false, narrowed := true }
def VecTurnsUptoSaid : Prop := vecTurnsUptoRow.holds Try.pinned (OpenSpec.upto vecTurnsSpec)

end Rows
end Go.Proofs.Ytdlpcdehmpkedaa
