/-
  No cell of these rows narrows 'for every input' (looked for: loops, veiled, ifaces, maps, wideKeys, modest, calm, conditions, laid).
  DERIVED. THE GIVEN ROWS OF THIS SEAT. 7 by the template 'for every input the law returns true; each argument reads behind the call as it read before'; 0 by the template 'total and deterministic' (their statements: YtmliclfepnebfaaTotals.lean).
  GIVEN WITH THE SEED: the statements are not yours to turn. If you find one false, say at which input.
  Laid BY PROGRAM, IN A SANDBOX (cutbox-rows.mjs): the forced cells as the released guide's own fill.sh prints them over the translation d0e72eec3904f416… (all of the seat's roots in one cut). By AI agents, Wed Nov 11 2026. No macro, syntax, notation, axiom, sorry.
-/
import Derived.Test.YtmliclfepnebfaaChecked
import GoSem.Claim
import GoSem.ClaimJoined
import GoSem.ClaimMapViews
import Derived.JoinedTies
import Derived.KernelRfl
namespace Go.Proofs.Ytmliclfepnebfaa
/- THE CELL 'sum', in the pinned program and in every row, IS THE sha256 OF THE DUMP (.gsa) THAT YtmliclfepnebfaaProg.lean LOADS. Nothing in Lean hashes anything: it is a label: what it is worth is what the hold of that sum in a sandbox is worth. -/
noncomputable def Try.pinned : Pinned := { name := "ytmliclfepnebfaa", sum := "d0e72eec3904f4164ebf7866dcfc89c12eac1850a1219824f4b60f6d7be0fa22", checked := Try.checked }
namespace Rows
def none {H : Type} : Left H := { results := [], args := [] }

/-- 'meridianlaw15.ChainPlays': WHATEVER THE INPUT: true; the input reads as it did. -/
def chainPlaysSpec : ChangeSpec := { name := "chainPlays", fn := fun _ => fun
  | [d1, d2] => { results := [.lit (.bool true)], args := [d1, d2] }
  | _ => none }
def chainPlaysRow : OpenClaim := { program := "ytmliclfepnebfaa", sum := "d0e72eec3904f4164ebf7866dcfc89c12eac1850a1219824f4b60f6d7be0fa22", func := "meridian/meridianlaw15.ChainPlays", spec := "chainPlays", inPlace := ["slices.overlaps[meridian/api.Version]"], unfollowed := true, recurses := true, apart := false }
def ChainPlaysSaid : Prop := chainPlaysRow.holds Try.pinned (OpenSpec.ofChange chainPlaysSpec)

/-- ITS FALSE NEIGHBOUR: 'it returns false'. Refute it at one input. -/
def chainPlaysWrong : ChangeSpec := { name := "chainPlays", fn := fun _ => fun
  | [d1, d2] => { results := [.lit (.bool false)], args := [d1, d2] }
  | _ => none }
def ChainPlaysWrongFalsely : Prop := chainPlaysRow.holds Try.pinned (OpenSpec.ofChange chainPlaysWrong)

/-- 'meridianlaw15.ChainTurns': WHATEVER THE INPUT: true; the input reads as it did. -/
def chainTurnsSpec : ChangeSpec := { name := "chainTurns", fn := fun _ => fun
  | [d] => { results := [.lit (.bool true)], args := [d] }
  | _ => none }
def chainTurnsRow : OpenClaim := { program := "ytmliclfepnebfaa", sum := "d0e72eec3904f4164ebf7866dcfc89c12eac1850a1219824f4b60f6d7be0fa22", func := "meridian/meridianlaw15.ChainTurns", spec := "chainTurns", inPlace := ["slices.overlaps[meridian/api.Version]"], unfollowed := true, recurses := true, apart := false }
def ChainTurnsSaid : Prop := chainTurnsRow.holds Try.pinned (OpenSpec.ofChange chainTurnsSpec)

/-- ITS FALSE NEIGHBOUR: 'it returns false'. Refute it at one input. -/
def chainTurnsWrong : ChangeSpec := { name := "chainTurns", fn := fun _ => fun
  | [d] => { results := [.lit (.bool false)], args := [d] }
  | _ => none }
def ChainTurnsWrongFalsely : Prop := chainTurnsRow.holds Try.pinned (OpenSpec.ofChange chainTurnsWrong)

/-- 'meridianlaw15.ChainTrims': WHATEVER THE INPUT: true; the input reads as it did. -/
def chainTrimsSpec : ChangeSpec := { name := "chainTrims", fn := fun _ => fun
  | [d1, d2, d3] => { results := [.lit (.bool true)], args := [d1, d2, d3] }
  | _ => none }
def chainTrimsRow : OpenClaim := { program := "ytmliclfepnebfaa", sum := "d0e72eec3904f4164ebf7866dcfc89c12eac1850a1219824f4b60f6d7be0fa22", func := "meridian/meridianlaw15.ChainTrims", spec := "chainTrims", inPlace := ["slices.overlaps[meridian/api.Version]"], unfollowed := true, recurses := true, apart := false }
def ChainTrimsSaid : Prop := chainTrimsRow.holds Try.pinned (OpenSpec.ofChange chainTrimsSpec)

/-- ITS FALSE NEIGHBOUR: 'it returns false'. Refute it at one input. -/
def chainTrimsWrong : ChangeSpec := { name := "chainTrims", fn := fun _ => fun
  | [d1, d2, d3] => { results := [.lit (.bool false)], args := [d1, d2, d3] }
  | _ => none }
def ChainTrimsWrongFalsely : Prop := chainTrimsRow.holds Try.pinned (OpenSpec.ofChange chainTrimsWrong)

/-- 'meridianlaw15.ChainTTL': WHATEVER THE INPUT: true; the input reads as it did. -/
def chainTTLSpec : ChangeSpec := { name := "chainTTL", fn := fun _ => fun
  | [d1, d2, d3] => { results := [.lit (.bool true)], args := [d1, d2, d3] }
  | _ => none }
def chainTTLRow : OpenClaim := { program := "ytmliclfepnebfaa", sum := "d0e72eec3904f4164ebf7866dcfc89c12eac1850a1219824f4b60f6d7be0fa22", func := "meridian/meridianlaw15.ChainTTL", spec := "chainTTL", inPlace := ["slices.overlaps[meridian/api.Version]"], unfollowed := true, recurses := true, apart := false }
def ChainTTLSaid : Prop := chainTTLRow.holds Try.pinned (OpenSpec.ofChange chainTTLSpec)

/-- ITS FALSE NEIGHBOUR: 'it returns false'. Refute it at one input. -/
def chainTTLWrong : ChangeSpec := { name := "chainTTL", fn := fun _ => fun
  | [d1, d2, d3] => { results := [.lit (.bool false)], args := [d1, d2, d3] }
  | _ => none }
def ChainTTLWrongFalsely : Prop := chainTTLRow.holds Try.pinned (OpenSpec.ofChange chainTTLWrong)

/-- 'meridianlaw15.ChainOfNothing': WHATEVER THE INPUT: true; the input reads as it did. -/
def chainOfNothingSpec : ChangeSpec := { name := "chainOfNothing", fn := fun _ => fun
  | [d1, d2] => { results := [.lit (.bool true)], args := [d1, d2] }
  | _ => none }
def chainOfNothingRow : OpenClaim := { program := "ytmliclfepnebfaa", sum := "d0e72eec3904f4164ebf7866dcfc89c12eac1850a1219824f4b60f6d7be0fa22", func := "meridian/meridianlaw15.ChainOfNothing", spec := "chainOfNothing", inPlace := ["slices.overlaps[meridian/api.Version]"], unfollowed := true, recurses := true, apart := false }
def ChainOfNothingSaid : Prop := chainOfNothingRow.holds Try.pinned (OpenSpec.ofChange chainOfNothingSpec)

/-- ITS FALSE NEIGHBOUR: 'it returns false'. Refute it at one input. -/
def chainOfNothingWrong : ChangeSpec := { name := "chainOfNothing", fn := fun _ => fun
  | [d1, d2] => { results := [.lit (.bool false)], args := [d1, d2] }
  | _ => none }
def ChainOfNothingWrongFalsely : Prop := chainOfNothingRow.holds Try.pinned (OpenSpec.ofChange chainOfNothingWrong)

/-- 'meridianlaw15.ChainTwice': WHATEVER THE INPUT: true; the input reads as it did. -/
def chainTwiceSpec : ChangeSpec := { name := "chainTwice", fn := fun _ => fun
  | [d1, d2, d3] => { results := [.lit (.bool true)], args := [d1, d2, d3] }
  | _ => none }
def chainTwiceRow : OpenClaim := { program := "ytmliclfepnebfaa", sum := "d0e72eec3904f4164ebf7866dcfc89c12eac1850a1219824f4b60f6d7be0fa22", func := "meridian/meridianlaw15.ChainTwice", spec := "chainTwice", inPlace := ["slices.overlaps[meridian/api.Version]"], unfollowed := true, recurses := true, apart := false }
def ChainTwiceSaid : Prop := chainTwiceRow.holds Try.pinned (OpenSpec.ofChange chainTwiceSpec)

/-- ITS FALSE NEIGHBOUR: 'it returns false'. Refute it at one input. -/
def chainTwiceWrong : ChangeSpec := { name := "chainTwice", fn := fun _ => fun
  | [d1, d2, d3] => { results := [.lit (.bool false)], args := [d1, d2, d3] }
  | _ => none }
def ChainTwiceWrongFalsely : Prop := chainTwiceRow.holds Try.pinned (OpenSpec.ofChange chainTwiceWrong)

/-- 'meridianlaw15.ChainNewest': WHATEVER THE INPUT: true; the input reads as it did. -/
def chainNewestSpec : ChangeSpec := { name := "chainNewest", fn := fun _ => fun
  | [d] => { results := [.lit (.bool true)], args := [d] }
  | _ => none }
def chainNewestRow : OpenClaim := { program := "ytmliclfepnebfaa", sum := "d0e72eec3904f4164ebf7866dcfc89c12eac1850a1219824f4b60f6d7be0fa22", func := "meridian/meridianlaw15.ChainNewest", spec := "chainNewest", inPlace := ["slices.overlaps[meridian/api.Version]"], unfollowed := true, recurses := true, apart := false }
def ChainNewestSaid : Prop := chainNewestRow.holds Try.pinned (OpenSpec.ofChange chainNewestSpec)

/-- ITS FALSE NEIGHBOUR: 'it returns false'. Refute it at one input. -/
def chainNewestWrong : ChangeSpec := { name := "chainNewest", fn := fun _ => fun
  | [d] => { results := [.lit (.bool false)], args := [d] }
  | _ => none }
def ChainNewestWrongFalsely : Prop := chainNewestRow.holds Try.pinned (OpenSpec.ofChange chainNewestWrong)

/- THE SECOND FORM. 'bulk': how many values and letters a reading holds, each counted each time it is reached (what is shared counts as often as it is met; a slice's spare places count too). A statement '..UptoSaid' is the law's where the arguments, and the package variables that the reading takes, are together of bulk at most 1048576: NARROWER than '..Said'. Prove '..Said' where nothing that the law and all that it calls make is longer than what came in: it says more and counts as full. Else prove '..UptoSaid'. A law counts once. -/
mutual
def uptoBulk {H : Type} : DataW H → Nat
  | .lit (.string bytes) => bytes.length + 1
  | .lit _ => 1
  | .nil => 1
  | .ptr d => uptoBulk d + 1
  | .slice elems spare => uptoBulkAll elems + uptoBulkAll spare + 1
  | .agg parts => uptoBulkAll parts + 1
  | .iface _ d => uptoBulk d + 1
  | .map entries => uptoBulkEntries entries + 1
  | .held _ => 1
def uptoBulkAll {H : Type} : List (DataW H) → Nat
  | [] => 0
  | d :: r => uptoBulk d + uptoBulkAll r
def uptoBulkEntries {H : Type} : List (Lit × DataW H) → Nat
  | [] => 0
  | x :: r => uptoBulkEntry x + uptoBulkEntries r
def uptoBulkEntry {H : Type} : Lit × DataW H → Nat
  | (.string bytes, d) => bytes.length + uptoBulk d + 1
  | (_, d) => uptoBulk d + 1
 end
def uptoSmall : (H : Type) → List (DataW H) → Bool := fun _ ds => decide (uptoBulkAll ds ≤ 1048576)
def OpenSpec.upto (s : _root_.Go.ChangeSpec) : _root_.Go.OpenSpec := { _root_.Go.OpenSpec.ofChange s with cond := some uptoSmall }

/-- 'meridianlaw15.ChainPlays', WHERE WHAT IT READS IS OF BULK AT MOST 1048576: true; the input reads as it did. -/
def chainPlaysUptoRow : OpenClaim := { program := "ytmliclfepnebfaa", sum := "d0e72eec3904f4164ebf7866dcfc89c12eac1850a1219824f4b60f6d7be0fa22", func := "meridian/meridianlaw15.ChainPlays", spec := "chainPlays", inPlace := ["slices.overlaps[meridian/api.Version]"], unfollowed := true, recurses := true, apart := false, narrowed := true }
def ChainPlaysUptoSaid : Prop := chainPlaysUptoRow.holds Try.pinned (OpenSpec.upto chainPlaysSpec)

/-- 'meridianlaw15.ChainTurns', WHERE WHAT IT READS IS OF BULK AT MOST 1048576: true; the input reads as it did. -/
def chainTurnsUptoRow : OpenClaim := { program := "ytmliclfepnebfaa", sum := "d0e72eec3904f4164ebf7866dcfc89c12eac1850a1219824f4b60f6d7be0fa22", func := "meridian/meridianlaw15.ChainTurns", spec := "chainTurns", inPlace := ["slices.overlaps[meridian/api.Version]"], unfollowed := true, recurses := true, apart := false, narrowed := true }
def ChainTurnsUptoSaid : Prop := chainTurnsUptoRow.holds Try.pinned (OpenSpec.upto chainTurnsSpec)

/-- 'meridianlaw15.ChainTrims', WHERE WHAT IT READS IS OF BULK AT MOST 1048576: true; the input reads as it did. -/
def chainTrimsUptoRow : OpenClaim := { program := "ytmliclfepnebfaa", sum := "d0e72eec3904f4164ebf7866dcfc89c12eac1850a1219824f4b60f6d7be0fa22", func := "meridian/meridianlaw15.ChainTrims", spec := "chainTrims", inPlace := ["slices.overlaps[meridian/api.Version]"], unfollowed := true, recurses := true, apart := false, narrowed := true }
def ChainTrimsUptoSaid : Prop := chainTrimsUptoRow.holds Try.pinned (OpenSpec.upto chainTrimsSpec)

/-- 'meridianlaw15.ChainTTL', WHERE WHAT IT READS IS OF BULK AT MOST 1048576: true; the input reads as it did. -/
def chainTTLUptoRow : OpenClaim := { program := "ytmliclfepnebfaa", sum := "d0e72eec3904f4164ebf7866dcfc89c12eac1850a1219824f4b60f6d7be0fa22", func := "meridian/meridianlaw15.ChainTTL", spec := "chainTTL", inPlace := ["slices.overlaps[meridian/api.Version]"], unfollowed := true, recurses := true, apart := false, narrowed := true }
def ChainTTLUptoSaid : Prop := chainTTLUptoRow.holds Try.pinned (OpenSpec.upto chainTTLSpec)

/-- 'meridianlaw15.ChainOfNothing', WHERE WHAT IT READS IS OF BULK AT MOST 1048576: true; the input reads as it did. -/
def chainOfNothingUptoRow : OpenClaim := { program := "ytmliclfepnebfaa", sum := "d0e72eec3904f4164ebf7866dcfc89c12eac1850a1219824f4b60f6d7be0fa22", func := "meridian/meridianlaw15.ChainOfNothing", spec := "chainOfNothing", inPlace := ["slices.overlaps[meridian/api.Version]"], unfollowed := true, recurses := true, apart := false, narrowed := true }
def ChainOfNothingUptoSaid : Prop := chainOfNothingUptoRow.holds Try.pinned (OpenSpec.upto chainOfNothingSpec)

/-- 'meridianlaw15.ChainTwice', WHERE WHAT IT READS IS OF BULK AT MOST 1048576: true; the input reads as it did. -/
def chainTwiceUptoRow : OpenClaim := { program := "ytmliclfepnebfaa", sum := "d0e72eec3904f4164ebf7866dcfc89c12eac1850a1219824f4b60f6d7be0fa22", func := "meridian/meridianlaw15.ChainTwice", spec := "chainTwice", inPlace := ["slices.overlaps[meridian/api.Version]"], unfollowed := true, recurses := true, apart := false, narrowed := true }
def ChainTwiceUptoSaid : Prop := chainTwiceUptoRow.holds Try.pinned (OpenSpec.upto chainTwiceSpec)

/-- 'meridianlaw15.ChainNewest', WHERE WHAT IT READS IS OF BULK AT MOST 1048576: true; the input reads as it did. -/
def chainNewestUptoRow : OpenClaim := { program := "ytmliclfepnebfaa", sum := "d0e72eec3904f4164ebf7866dcfc89c12eac1850a1219824f4b60f6d7be0fa22", func := "meridian/meridianlaw15.ChainNewest", spec := "chainNewest", inPlace := ["slices.overlaps[meridian/api.Version]"], unfollowed := true, recurses := true, apart := false, narrowed := true }
def ChainNewestUptoSaid : Prop := chainNewestUptoRow.holds Try.pinned (OpenSpec.upto chainNewestSpec)

end Rows
end Go.Proofs.Ytmliclfepnebfaa
