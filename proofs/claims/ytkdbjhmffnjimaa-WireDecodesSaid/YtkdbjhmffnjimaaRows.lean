/-
  No cell of these rows narrows 'for every input' (looked for: loops, veiled, ifaces, maps, wideKeys, modest, calm, conditions, laid).
  DERIVED. THE GIVEN ROWS OF THIS SEAT. 6 by the template 'for every input the law returns true; each argument reads behind the call as it read before'; 0 by the template 'total and deterministic' (their statements: YtkdbjhmffnjimaaTotals.lean).
  GIVEN WITH THE SEED: the statements are not yours to turn. If you find one false, say at which input.
  Laid BY PROGRAM, IN A SANDBOX (cutbox-rows.mjs): the forced cells as the released guide's own fill.sh prints them over the translation a2287b35891e9b42… (all of the seat's roots in one cut). By AI agents, Wed Nov 11 2026. No macro, syntax, notation, axiom, sorry.
-/
import Derived.Test.YtkdbjhmffnjimaaChecked
import GoSem.Claim
import GoSem.ClaimJoined
import GoSem.ClaimMapViews
import Derived.JoinedTies
import Derived.KernelRfl
namespace Go.Proofs.Ytkdbjhmffnjimaa
/- THE CELL 'sum', in the pinned program and in every row, IS THE sha256 OF THE DUMP (.gsa) THAT YtkdbjhmffnjimaaProg.lean LOADS. Nothing in Lean hashes anything: it is a label: what it is worth is what the hold of that sum in a sandbox is worth. -/
noncomputable def Try.pinned : Pinned := { name := "ytkdbjhmffnjimaa", sum := "a2287b35891e9b426ba5d8641f4148144088725b9a8b474b3130dd894f608490", checked := Try.checked }
namespace Rows
def none {H : Type} : Left H := { results := [], args := [] }

/-- 'meridianlaw17.WireEncodes': WHATEVER THE INPUT: true; the input reads as it did. -/
def wireEncodesSpec : ChangeSpec := { name := "wireEncodes", fn := fun _ => fun
  | [d] => { results := [.lit (.bool true)], args := [d] }
  | _ => none }
def wireEncodesRow : OpenClaim := { program := "ytkdbjhmffnjimaa", sum := "a2287b35891e9b426ba5d8641f4148144088725b9a8b474b3130dd894f608490", func := "meridian/meridianlaw17.WireEncodes", spec := "wireEncodes", inPlace := ["internal/bytealg.MakeNoZero"], apart := false }
def WireEncodesSaid : Prop := wireEncodesRow.holds Try.pinned (OpenSpec.ofChange wireEncodesSpec)

/-- ITS FALSE NEIGHBOUR: 'it returns false'. Refute it at one input. -/
def wireEncodesWrong : ChangeSpec := { name := "wireEncodes", fn := fun _ => fun
  | [d] => { results := [.lit (.bool false)], args := [d] }
  | _ => none }
def WireEncodesWrongFalsely : Prop := wireEncodesRow.holds Try.pinned (OpenSpec.ofChange wireEncodesWrong)

/-- 'meridianlaw17.WireDecodes': WHATEVER THE INPUT: true; the input reads as it did. -/
def wireDecodesSpec : ChangeSpec := { name := "wireDecodes", fn := fun _ => fun
  | [d] => { results := [.lit (.bool true)], args := [d] }
  | _ => none }
def wireDecodesRow : OpenClaim := { program := "ytkdbjhmffnjimaa", sum := "a2287b35891e9b426ba5d8641f4148144088725b9a8b474b3130dd894f608490", func := "meridian/meridianlaw17.WireDecodes", spec := "wireDecodes", inPlace := ["internal/bytealg.MakeNoZero"], apart := false }
def WireDecodesSaid : Prop := wireDecodesRow.holds Try.pinned (OpenSpec.ofChange wireDecodesSpec)

/-- ITS FALSE NEIGHBOUR: 'it returns false'. Refute it at one input. -/
def wireDecodesWrong : ChangeSpec := { name := "wireDecodes", fn := fun _ => fun
  | [d] => { results := [.lit (.bool false)], args := [d] }
  | _ => none }
def WireDecodesWrongFalsely : Prop := wireDecodesRow.holds Try.pinned (OpenSpec.ofChange wireDecodesWrong)

/-- 'meridianlaw17.WireSees': WHATEVER THE INPUT: true; the input reads as it did. -/
def wireSeesSpec : ChangeSpec := { name := "wireSees", fn := fun _ => fun
  | [d1, d2, d3] => { results := [.lit (.bool true)], args := [d1, d2, d3] }
  | _ => none }
def wireSeesRow : OpenClaim := { program := "ytkdbjhmffnjimaa", sum := "a2287b35891e9b426ba5d8641f4148144088725b9a8b474b3130dd894f608490", func := "meridian/meridianlaw17.WireSees", spec := "wireSees", inPlace := ["internal/bytealg.MakeNoZero"], apart := false }
def WireSeesSaid : Prop := wireSeesRow.holds Try.pinned (OpenSpec.ofChange wireSeesSpec)

/-- ITS FALSE NEIGHBOUR: 'it returns false'. Refute it at one input. -/
def wireSeesWrong : ChangeSpec := { name := "wireSees", fn := fun _ => fun
  | [d1, d2, d3] => { results := [.lit (.bool false)], args := [d1, d2, d3] }
  | _ => none }
def WireSeesWrongFalsely : Prop := wireSeesRow.holds Try.pinned (OpenSpec.ofChange wireSeesWrong)

/-- 'meridianlaw17.WireGaps': WHATEVER THE INPUT: true; the input reads as it did. -/
def wireGapsSpec : ChangeSpec := { name := "wireGaps", fn := fun _ => fun
  | [d1, d2, d3] => { results := [.lit (.bool true)], args := [d1, d2, d3] }
  | _ => none }
def wireGapsRow : OpenClaim := { program := "ytkdbjhmffnjimaa", sum := "a2287b35891e9b426ba5d8641f4148144088725b9a8b474b3130dd894f608490", func := "meridian/meridianlaw17.WireGaps", spec := "wireGaps", inPlace := ["internal/bytealg.MakeNoZero"], apart := false }
def WireGapsSaid : Prop := wireGapsRow.holds Try.pinned (OpenSpec.ofChange wireGapsSpec)

/-- ITS FALSE NEIGHBOUR: 'it returns false'. Refute it at one input. -/
def wireGapsWrong : ChangeSpec := { name := "wireGaps", fn := fun _ => fun
  | [d1, d2, d3] => { results := [.lit (.bool false)], args := [d1, d2, d3] }
  | _ => none }
def WireGapsWrongFalsely : Prop := wireGapsRow.holds Try.pinned (OpenSpec.ofChange wireGapsWrong)

/-- 'meridianlaw17.WireApart': WHATEVER THE INPUT: true; the input reads as it did. -/
def wireApartSpec : ChangeSpec := { name := "wireApart", fn := fun _ => fun
  | [d1, d2] => { results := [.lit (.bool true)], args := [d1, d2] }
  | _ => none }
def wireApartRow : OpenClaim := { program := "ytkdbjhmffnjimaa", sum := "a2287b35891e9b426ba5d8641f4148144088725b9a8b474b3130dd894f608490", func := "meridian/meridianlaw17.WireApart", spec := "wireApart", inPlace := ["internal/bytealg.MakeNoZero"], apart := false }
def WireApartSaid : Prop := wireApartRow.holds Try.pinned (OpenSpec.ofChange wireApartSpec)

/-- ITS FALSE NEIGHBOUR: 'it returns false'. Refute it at one input. -/
def wireApartWrong : ChangeSpec := { name := "wireApart", fn := fun _ => fun
  | [d1, d2] => { results := [.lit (.bool false)], args := [d1, d2] }
  | _ => none }
def WireApartWrongFalsely : Prop := wireApartRow.holds Try.pinned (OpenSpec.ofChange wireApartWrong)

/-- 'meridianlaw17.WireAlone': WHATEVER THE INPUT: true; the input reads as it did. -/
def wireAloneSpec : ChangeSpec := { name := "wireAlone", fn := fun _ => fun
  | [d1, d2] => { results := [.lit (.bool true)], args := [d1, d2] }
  | _ => none }
def wireAloneRow : OpenClaim := { program := "ytkdbjhmffnjimaa", sum := "a2287b35891e9b426ba5d8641f4148144088725b9a8b474b3130dd894f608490", func := "meridian/meridianlaw17.WireAlone", spec := "wireAlone", inPlace := ["internal/bytealg.MakeNoZero"], apart := false }
def WireAloneSaid : Prop := wireAloneRow.holds Try.pinned (OpenSpec.ofChange wireAloneSpec)

/-- ITS FALSE NEIGHBOUR: 'it returns false'. Refute it at one input. -/
def wireAloneWrong : ChangeSpec := { name := "wireAlone", fn := fun _ => fun
  | [d1, d2] => { results := [.lit (.bool false)], args := [d1, d2] }
  | _ => none }
def WireAloneWrongFalsely : Prop := wireAloneRow.holds Try.pinned (OpenSpec.ofChange wireAloneWrong)

/- THE SECOND FORM. 'bulk': how many values and letters a reading holds, each counted each time it is reached (what is shared counts as often as it is met; a slice's spare places count too). A statement '..UptoSaid' is the law's where the arguments, and the package variables that the reading takes, are together of bulk at most 1048576: NARROWER than '..Said'. Prove '..Said' where nothing that the law and all that it calls make is longer than what came in: it says more and counts as full. Else prove '..UptoSaid'. A law counts once. -/
mutual
def uptoBulk {H : Type} : DataW H → Nat
  | .lit (.string bytes) => bytes.length + 1
  | .lit _ => 1
  | .nil => 1
  | .ptr d => uptoBulk d + 1
  | .slice elems spare => uptoBulkAll elems + uptoBulkAll spare + 1
  | .agg parts => uptoBulkAll parts + 1
  | .iface _ d => uptoBulk d + 1
  | .map entries => uptoBulkEntries entries + 1
  | .held _ => 1
def uptoBulkAll {H : Type} : List (DataW H) → Nat
  | [] => 0
  | d :: r => uptoBulk d + uptoBulkAll r
def uptoBulkEntries {H : Type} : List (Lit × DataW H) → Nat
  | [] => 0
  | x :: r => uptoBulkEntry x + uptoBulkEntries r
def uptoBulkEntry {H : Type} : Lit × DataW H → Nat
  | (.string bytes, d) => bytes.length + uptoBulk d + 1
  | (_, d) => uptoBulk d + 1
 end
def uptoSmall : (H : Type) → List (DataW H) → Bool := fun _ ds => decide (uptoBulkAll ds ≤ 1048576)
def OpenSpec.upto (s : _root_.Go.ChangeSpec) : _root_.Go.OpenSpec := { _root_.Go.OpenSpec.ofChange s with cond := some uptoSmall }

/-- 'meridianlaw17.WireEncodes', WHERE WHAT IT READS IS OF BULK AT MOST 1048576: true; the input reads as it did. -/
def wireEncodesUptoRow : OpenClaim := { program := "ytkdbjhmffnjimaa", sum := "a2287b35891e9b426ba5d8641f4148144088725b9a8b474b3130dd894f608490", func := "meridian/meridianlaw17.WireEncodes", spec := "wireEncodes", inPlace := ["internal/bytealg.MakeNoZero"], apart := false, narrowed := true }
def WireEncodesUptoSaid : Prop := wireEncodesUptoRow.holds Try.pinned (OpenSpec.upto wireEncodesSpec)

/-- 'meridianlaw17.WireDecodes', WHERE WHAT IT READS IS OF BULK AT MOST 1048576: true; the input reads as it did. -/
def wireDecodesUptoRow : OpenClaim := { program := "ytkdbjhmffnjimaa", sum := "a2287b35891e9b426ba5d8641f4148144088725b9a8b474b3130dd894f608490", func := "meridian/meridianlaw17.WireDecodes", spec := "wireDecodes", inPlace := ["internal/bytealg.MakeNoZero"], apart := false, narrowed := true }
def WireDecodesUptoSaid : Prop := wireDecodesUptoRow.holds Try.pinned (OpenSpec.upto wireDecodesSpec)

/-- 'meridianlaw17.WireSees', WHERE WHAT IT READS IS OF BULK AT MOST 1048576: true; the input reads as it did. -/
def wireSeesUptoRow : OpenClaim := { program := "ytkdbjhmffnjimaa", sum := "a2287b35891e9b426ba5d8641f4148144088725b9a8b474b3130dd894f608490", func := "meridian/meridianlaw17.WireSees", spec := "wireSees", inPlace := ["internal/bytealg.MakeNoZero"], apart := false, narrowed := true }
def WireSeesUptoSaid : Prop := wireSeesUptoRow.holds Try.pinned (OpenSpec.upto wireSeesSpec)

/-- 'meridianlaw17.WireGaps', WHERE WHAT IT READS IS OF BULK AT MOST 1048576: true; the input reads as it did. -/
def wireGapsUptoRow : OpenClaim := { program := "ytkdbjhmffnjimaa", sum := "a2287b35891e9b426ba5d8641f4148144088725b9a8b474b3130dd894f608490", func := "meridian/meridianlaw17.WireGaps", spec := "wireGaps", inPlace := ["internal/bytealg.MakeNoZero"], apart := false, narrowed := true }
def WireGapsUptoSaid : Prop := wireGapsUptoRow.holds Try.pinned (OpenSpec.upto wireGapsSpec)

/-- 'meridianlaw17.WireApart', WHERE WHAT IT READS IS OF BULK AT MOST 1048576: true; the input reads as it did. -/
def wireApartUptoRow : OpenClaim := { program := "ytkdbjhmffnjimaa", sum := "a2287b35891e9b426ba5d8641f4148144088725b9a8b474b3130dd894f608490", func := "meridian/meridianlaw17.WireApart", spec := "wireApart", inPlace := ["internal/bytealg.MakeNoZero"], apart := false, narrowed := true }
def WireApartUptoSaid : Prop := wireApartUptoRow.holds Try.pinned (OpenSpec.upto wireApartSpec)

/-- 'meridianlaw17.WireAlone', WHERE WHAT IT READS IS OF BULK AT MOST 1048576: true; the input reads as it did. -/
def wireAloneUptoRow : OpenClaim := { program := "ytkdbjhmffnjimaa", sum := "a2287b35891e9b426ba5d8641f4148144088725b9a8b474b3130dd894f608490", func := "meridian/meridianlaw17.WireAlone", spec := "wireAlone", inPlace := ["internal/bytealg.MakeNoZero"], apart := false, narrowed := true }
def WireAloneUptoSaid : Prop := wireAloneUptoRow.holds Try.pinned (OpenSpec.upto wireAloneSpec)

end Rows
end Go.Proofs.Ytkdbjhmffnjimaa
