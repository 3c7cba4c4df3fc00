/-
  No cell of these rows narrows 'for every input' (looked for: loops, veiled, ifaces, maps, wideKeys, modest, calm, conditions, laid).
  DERIVED. THE GIVEN ROWS OF THIS SEAT. 7 by the template 'for every input the law returns true; each argument reads behind the call as it read before'; 0 by the template 'total and deterministic' (their statements: YtdfkednggjelcaaTotals.lean).
  GIVEN WITH THE SEED: the statements are not yours to turn. If you find one false, say at which input.
  Laid BY PROGRAM, IN A SANDBOX (cutbox-rows.mjs): the forced cells as the released guide's own fill.sh prints them over the translation 5dc0709d6389565f… (all of the seat's roots in one cut). By AI agents, Wed Nov 11 2026. No macro, syntax, notation, axiom, sorry.
-/
import Derived.Test.YtdfkednggjelcaaChecked
import GoSem.Claim
import GoSem.ClaimJoined
import GoSem.ClaimMapViews
import Derived.JoinedTies
import Derived.KernelRfl
namespace Go.Proofs.Ytdfkednggjelcaa
/- THE CELL 'sum', in the pinned program and in every row, IS THE sha256 OF THE DUMP (.gsa) THAT YtdfkednggjelcaaProg.lean LOADS. Nothing in Lean hashes anything: it is a label: what it is worth is what the hold of that sum in a sandbox is worth. -/
noncomputable def Try.pinned : Pinned := { name := "ytdfkednggjelcaa", sum := "5dc0709d6389565f90179cf8bf9a426b395fbb5f5d198dd5b79cde4de6b462f3", checked := Try.checked }
namespace Rows
def none {H : Type} : Left H := { results := [], args := [] }

/-- 'meridianlaw18.StreamTakes': WHATEVER THE INPUT: true; the input reads as it did. -/
def streamTakesSpec : ChangeSpec := { name := "streamTakes", fn := fun _ => fun
  | [d1, d2, d3, d4, d5] => { results := [.lit (.bool true)], args := [d1, d2, d3, d4, d5] }
  | _ => none }
def streamTakesRow : OpenClaim := { program := "ytdfkednggjelcaa", sum := "5dc0709d6389565f90179cf8bf9a426b395fbb5f5d198dd5b79cde4de6b462f3", func := "meridian/meridianlaw18.StreamTakes", spec := "streamTakes", inPlace := ["internal/bytealg.MakeNoZero"], apart := false }
def StreamTakesSaid : Prop := streamTakesRow.holds Try.pinned (OpenSpec.ofChange streamTakesSpec)

/-- ITS FALSE NEIGHBOUR: 'it returns false'. Refute it at one input. -/
def streamTakesWrong : ChangeSpec := { name := "streamTakes", fn := fun _ => fun
  | [d1, d2, d3, d4, d5] => { results := [.lit (.bool false)], args := [d1, d2, d3, d4, d5] }
  | _ => none }
def StreamTakesWrongFalsely : Prop := streamTakesRow.holds Try.pinned (OpenSpec.ofChange streamTakesWrong)

/-- 'meridianlaw18.StreamOnce': WHATEVER THE INPUT: true; the input reads as it did. -/
def streamOnceSpec : ChangeSpec := { name := "streamOnce", fn := fun _ => fun
  | [d1, d2, d3] => { results := [.lit (.bool true)], args := [d1, d2, d3] }
  | _ => none }
def streamOnceRow : OpenClaim := { program := "ytdfkednggjelcaa", sum := "5dc0709d6389565f90179cf8bf9a426b395fbb5f5d198dd5b79cde4de6b462f3", func := "meridian/meridianlaw18.StreamOnce", spec := "streamOnce", inPlace := ["internal/bytealg.MakeNoZero"], apart := false }
def StreamOnceSaid : Prop := streamOnceRow.holds Try.pinned (OpenSpec.ofChange streamOnceSpec)

/-- ITS FALSE NEIGHBOUR: 'it returns false'. Refute it at one input. -/
def streamOnceWrong : ChangeSpec := { name := "streamOnce", fn := fun _ => fun
  | [d1, d2, d3] => { results := [.lit (.bool false)], args := [d1, d2, d3] }
  | _ => none }
def StreamOnceWrongFalsely : Prop := streamOnceRow.holds Try.pinned (OpenSpec.ofChange streamOnceWrong)

/-- 'meridianlaw18.StreamSame': WHATEVER THE INPUT: true; the input reads as it did. -/
def streamSameSpec : ChangeSpec := { name := "streamSame", fn := fun _ => fun
  | [d1, d2] => { results := [.lit (.bool true)], args := [d1, d2] }
  | _ => none }
def streamSameRow : OpenClaim := { program := "ytdfkednggjelcaa", sum := "5dc0709d6389565f90179cf8bf9a426b395fbb5f5d198dd5b79cde4de6b462f3", func := "meridian/meridianlaw18.StreamSame", spec := "streamSame", inPlace := ["internal/bytealg.MakeNoZero"], apart := false }
def StreamSameSaid : Prop := streamSameRow.holds Try.pinned (OpenSpec.ofChange streamSameSpec)

/-- ITS FALSE NEIGHBOUR: 'it returns false'. Refute it at one input. -/
def streamSameWrong : ChangeSpec := { name := "streamSame", fn := fun _ => fun
  | [d1, d2] => { results := [.lit (.bool false)], args := [d1, d2] }
  | _ => none }
def StreamSameWrongFalsely : Prop := streamSameRow.holds Try.pinned (OpenSpec.ofChange streamSameWrong)

/-- 'meridianlaw18.StreamAgain': WHATEVER THE INPUT: true; the input reads as it did. -/
def streamAgainSpec : ChangeSpec := { name := "streamAgain", fn := fun _ => fun
  | [d1, d2] => { results := [.lit (.bool true)], args := [d1, d2] }
  | _ => none }
def streamAgainRow : OpenClaim := { program := "ytdfkednggjelcaa", sum := "5dc0709d6389565f90179cf8bf9a426b395fbb5f5d198dd5b79cde4de6b462f3", func := "meridian/meridianlaw18.StreamAgain", spec := "streamAgain", inPlace := ["internal/bytealg.MakeNoZero"], apart := false }
def StreamAgainSaid : Prop := streamAgainRow.holds Try.pinned (OpenSpec.ofChange streamAgainSpec)

/-- ITS FALSE NEIGHBOUR: 'it returns false'. Refute it at one input. -/
def streamAgainWrong : ChangeSpec := { name := "streamAgain", fn := fun _ => fun
  | [d1, d2] => { results := [.lit (.bool false)], args := [d1, d2] }
  | _ => none }
def StreamAgainWrongFalsely : Prop := streamAgainRow.holds Try.pinned (OpenSpec.ofChange streamAgainWrong)

/-- 'meridianlaw18.StreamSends': WHATEVER THE INPUT: true; the input reads as it did. -/
def streamSendsSpec : ChangeSpec := { name := "streamSends", fn := fun _ => fun
  | [d1, d2, d3, d4] => { results := [.lit (.bool true)], args := [d1, d2, d3, d4] }
  | _ => none }
def streamSendsRow : OpenClaim := { program := "ytdfkednggjelcaa", sum := "5dc0709d6389565f90179cf8bf9a426b395fbb5f5d198dd5b79cde4de6b462f3", func := "meridian/meridianlaw18.StreamSends", spec := "streamSends", inPlace := ["internal/bytealg.MakeNoZero"], apart := false }
def StreamSendsSaid : Prop := streamSendsRow.holds Try.pinned (OpenSpec.ofChange streamSendsSpec)

/-- ITS FALSE NEIGHBOUR: 'it returns false'. Refute it at one input. -/
def streamSendsWrong : ChangeSpec := { name := "streamSends", fn := fun _ => fun
  | [d1, d2, d3, d4] => { results := [.lit (.bool false)], args := [d1, d2, d3, d4] }
  | _ => none }
def StreamSendsWrongFalsely : Prop := streamSendsRow.holds Try.pinned (OpenSpec.ofChange streamSendsWrong)

/-- 'meridianlaw18.StreamComes': WHATEVER THE INPUT: true; the input reads as it did. -/
def streamComesSpec : ChangeSpec := { name := "streamComes", fn := fun _ => fun
  | [d1, d2] => { results := [.lit (.bool true)], args := [d1, d2] }
  | _ => none }
def streamComesRow : OpenClaim := { program := "ytdfkednggjelcaa", sum := "5dc0709d6389565f90179cf8bf9a426b395fbb5f5d198dd5b79cde4de6b462f3", func := "meridian/meridianlaw18.StreamComes", spec := "streamComes", inPlace := ["internal/bytealg.MakeNoZero"], apart := false }
def StreamComesSaid : Prop := streamComesRow.holds Try.pinned (OpenSpec.ofChange streamComesSpec)

/-- ITS FALSE NEIGHBOUR: 'it returns false'. Refute it at one input. -/
def streamComesWrong : ChangeSpec := { name := "streamComes", fn := fun _ => fun
  | [d1, d2] => { results := [.lit (.bool false)], args := [d1, d2] }
  | _ => none }
def StreamComesWrongFalsely : Prop := streamComesRow.holds Try.pinned (OpenSpec.ofChange streamComesWrong)

/-- 'meridianlaw18.StreamOfNothing': WHATEVER THE INPUT: true; the input reads as it did. -/
def streamOfNothingSpec : ChangeSpec := { name := "streamOfNothing", fn := fun _ => fun
  | [d1, d2] => { results := [.lit (.bool true)], args := [d1, d2] }
  | _ => none }
def streamOfNothingRow : OpenClaim := { program := "ytdfkednggjelcaa", sum := "5dc0709d6389565f90179cf8bf9a426b395fbb5f5d198dd5b79cde4de6b462f3", func := "meridian/meridianlaw18.StreamOfNothing", spec := "streamOfNothing", inPlace := ["internal/bytealg.MakeNoZero"], apart := false }
def StreamOfNothingSaid : Prop := streamOfNothingRow.holds Try.pinned (OpenSpec.ofChange streamOfNothingSpec)

/-- ITS FALSE NEIGHBOUR: 'it returns false'. Refute it at one input. -/
def streamOfNothingWrong : ChangeSpec := { name := "streamOfNothing", fn := fun _ => fun
  | [d1, d2] => { results := [.lit (.bool false)], args := [d1, d2] }
  | _ => none }
def StreamOfNothingWrongFalsely : Prop := streamOfNothingRow.holds Try.pinned (OpenSpec.ofChange streamOfNothingWrong)

/- THE SECOND FORM. 'bulk': how many values and letters a reading holds, each counted each time it is reached (what is shared counts as often as it is met; a slice's spare places count too). A statement '..UptoSaid' is the law's where the arguments, and the package variables that the reading takes, are together of bulk at most 1048576: NARROWER than '..Said'. Prove '..Said' where nothing that the law and all that it calls make is longer than what came in: it says more and counts as full. Else prove '..UptoSaid'. A law counts once. -/
mutual
def uptoBulk {H : Type} : DataW H → Nat
  | .lit (.string bytes) => bytes.length + 1
  | .lit _ => 1
  | .nil => 1
  | .ptr d => uptoBulk d + 1
  | .slice elems spare => uptoBulkAll elems + uptoBulkAll spare + 1
  | .agg parts => uptoBulkAll parts + 1
  | .iface _ d => uptoBulk d + 1
  | .map entries => uptoBulkEntries entries + 1
  | .held _ => 1
def uptoBulkAll {H : Type} : List (DataW H) → Nat
  | [] => 0
  | d :: r => uptoBulk d + uptoBulkAll r
def uptoBulkEntries {H : Type} : List (Lit × DataW H) → Nat
  | [] => 0
  | x :: r => uptoBulkEntry x + uptoBulkEntries r
def uptoBulkEntry {H : Type} : Lit × DataW H → Nat
  | (.string bytes, d) => bytes.length + uptoBulk d + 1
  | (_, d) => uptoBulk d + 1
 end
def uptoSmall : (H : Type) → List (DataW H) → Bool := fun _ ds => decide (uptoBulkAll ds ≤ 1048576)
def OpenSpec.upto (s : _root_.Go.ChangeSpec) : _root_.Go.OpenSpec := { _root_.Go.OpenSpec.ofChange s with cond := some uptoSmall }

/-- 'meridianlaw18.StreamTakes', WHERE WHAT IT READS IS OF BULK AT MOST 1048576: true; the input reads as it did. -/
def streamTakesUptoRow : OpenClaim := { program := "ytdfkednggjelcaa", sum := "5dc0709d6389565f90179cf8bf9a426b395fbb5f5d198dd5b79cde4de6b462f3", func := "meridian/meridianlaw18.StreamTakes", spec := "streamTakes", inPlace := ["internal/bytealg.MakeNoZero"], apart := false, narrowed := true }
def StreamTakesUptoSaid : Prop := streamTakesUptoRow.holds Try.pinned (OpenSpec.upto streamTakesSpec)

/-- 'meridianlaw18.StreamOnce', WHERE WHAT IT READS IS OF BULK AT MOST 1048576: true; the input reads as it did. -/
def streamOnceUptoRow : OpenClaim := { program := "ytdfkednggjelcaa", sum := "5dc0709d6389565f90179cf8bf9a426b395fbb5f5d198dd5b79cde4de6b462f3", func := "meridian/meridianlaw18.StreamOnce", spec := "streamOnce", inPlace := ["internal/bytealg.MakeNoZero"], apart := false, narrowed := true }
def StreamOnceUptoSaid : Prop := streamOnceUptoRow.holds Try.pinned (OpenSpec.upto streamOnceSpec)

/-- 'meridianlaw18.StreamSame', WHERE WHAT IT READS IS OF BULK AT MOST 1048576: true; the input reads as it did. -/
def streamSameUptoRow : OpenClaim := { program := "ytdfkednggjelcaa", sum := "5dc0709d6389565f90179cf8bf9a426b395fbb5f5d198dd5b79cde4de6b462f3", func := "meridian/meridianlaw18.StreamSame", spec := "streamSame", inPlace := ["internal/bytealg.MakeNoZero"], apart := false, narrowed := true }
def StreamSameUptoSaid : Prop := streamSameUptoRow.holds Try.pinned (OpenSpec.upto streamSameSpec)

/-- 'meridianlaw18.StreamAgain', WHERE WHAT IT READS IS OF BULK AT MOST 1048576: true; the input reads as it did. -/
def streamAgainUptoRow : OpenClaim := { program := "ytdfkednggjelcaa", sum := "5dc0709d6389565f90179cf8bf9a426b395fbb5f5d198dd5b79cde4de6b462f3", func := "meridian/meridianlaw18.StreamAgain", spec := "streamAgain", inPlace := ["internal/bytealg.MakeNoZero"], apart := false, narrowed := true }
def StreamAgainUptoSaid : Prop := streamAgainUptoRow.holds Try.pinned (OpenSpec.upto streamAgainSpec)

/-- 'meridianlaw18.StreamSends', WHERE WHAT IT READS IS OF BULK AT MOST 1048576: true; the input reads as it did. -/
def streamSendsUptoRow : OpenClaim := { program := "ytdfkednggjelcaa", sum := "5dc0709d6389565f90179cf8bf9a426b395fbb5f5d198dd5b79cde4de6b462f3", func := "meridian/meridianlaw18.StreamSends", spec := "streamSends", inPlace := ["internal/bytealg.MakeNoZero"], apart := false, narrowed := true }
def StreamSendsUptoSaid : Prop := streamSendsUptoRow.holds Try.pinned (OpenSpec.upto streamSendsSpec)

/-- 'meridianlaw18.StreamComes', WHERE WHAT IT READS IS OF BULK AT MOST 1048576: true; the input reads as it did. -/
def streamComesUptoRow : OpenClaim := { program := "ytdfkednggjelcaa", sum := "5dc0709d6389565f90179cf8bf9a426b395fbb5f5d198dd5b79cde4de6b462f3", func := "meridian/meridianlaw18.StreamComes", spec := "streamComes", inPlace := ["internal/bytealg.MakeNoZero"], apart := false, narrowed := true }
def StreamComesUptoSaid : Prop := streamComesUptoRow.holds Try.pinned (OpenSpec.upto streamComesSpec)

/-- 'meridianlaw18.StreamOfNothing', WHERE WHAT IT READS IS OF BULK AT MOST 1048576: true; the input reads as it did. -/
def streamOfNothingUptoRow : OpenClaim := { program := "ytdfkednggjelcaa", sum := "5dc0709d6389565f90179cf8bf9a426b395fbb5f5d198dd5b79cde4de6b462f3", func := "meridian/meridianlaw18.StreamOfNothing", spec := "streamOfNothing", inPlace := ["internal/bytealg.MakeNoZero"], apart := false, narrowed := true }
def StreamOfNothingUptoSaid : Prop := streamOfNothingUptoRow.holds Try.pinned (OpenSpec.upto streamOfNothingSpec)

end Rows
end Go.Proofs.Ytdfkednggjelcaa
