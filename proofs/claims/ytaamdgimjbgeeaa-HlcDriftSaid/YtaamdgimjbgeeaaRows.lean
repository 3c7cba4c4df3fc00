/-
  No cell of these rows narrows 'for every input' (looked for: loops, veiled, ifaces, maps, wideKeys, modest, calm, conditions, laid).
  DERIVED. THE GIVEN ROWS OF THIS SEAT. 11 by the template 'for every input the law returns true; each argument reads behind the call as it read before'; 0 by the template 'total and deterministic' (their statements: YtaamdgimjbgeeaaTotals.lean).
  GIVEN WITH THE SEED: the statements are not yours to turn. If you find one false, say at which input.
  Laid BY PROGRAM, IN A SANDBOX (cutbox-rows.mjs): the forced cells as the released guide's own fill.sh prints them over the translation 944ab8500073dacb… (all of the seat's roots in one cut). By AI agents, Wed Nov 11 2026. No macro, syntax, notation, axiom, sorry.
-/
import Derived.Test.YtaamdgimjbgeeaaChecked
import GoSem.Claim
import GoSem.ClaimJoined
import GoSem.ClaimMapViews
import Derived.JoinedTies
import Derived.KernelRfl
namespace Go.Proofs.Ytaamdgimjbgeeaa
/- THE CELL 'sum', in the pinned program and in every row, IS THE sha256 OF THE DUMP (.gsa) THAT YtaamdgimjbgeeaaProg.lean LOADS. Nothing in Lean hashes anything: it is a label: what it is worth is what the hold of that sum in a sandbox is worth. -/
noncomputable def Try.pinned : Pinned := { name := "ytaamdgimjbgeeaa", sum := "944ab8500073dacbf371bb24bce876c32350195363c3bebbd2df3cc2fb1082f6", checked := Try.checked }
namespace Rows
def none {H : Type} : Left H := { results := [], args := [] }

/-- 'meridianlaw10.HlcMax': WHATEVER THE INPUT: true; the input reads as it did. -/
def hlcMaxSpec : ChangeSpec := { name := "hlcMax", fn := fun _ => fun
  | [d] => { results := [.lit (.bool true)], args := [d] }
  | _ => none }
def hlcMaxRow : OpenClaim := { program := "ytaamdgimjbgeeaa", sum := "944ab8500073dacbf371bb24bce876c32350195363c3bebbd2df3cc2fb1082f6", func := "meridian/meridianlaw10.HlcMax", spec := "hlcMax", apart := false }
def HlcMaxSaid : Prop := hlcMaxRow.holds Try.pinned (OpenSpec.ofChange hlcMaxSpec)

/-- ITS FALSE NEIGHBOUR: 'it returns false'. Refute it at one input. -/
def hlcMaxWrong : ChangeSpec := { name := "hlcMax", fn := fun _ => fun
  | [d] => { results := [.lit (.bool false)], args := [d] }
  | _ => none }
def HlcMaxWrongFalsely : Prop := hlcMaxRow.holds Try.pinned (OpenSpec.ofChange hlcMaxWrong)

/-- 'meridianlaw10.HlcFull': WHATEVER THE INPUT: true; the input reads as it did. -/
def hlcFullSpec : ChangeSpec := { name := "hlcFull", fn := fun _ => fun
  | [d1, d2, d3] => { results := [.lit (.bool true)], args := [d1, d2, d3] }
  | _ => none }
def hlcFullRow : OpenClaim := { program := "ytaamdgimjbgeeaa", sum := "944ab8500073dacbf371bb24bce876c32350195363c3bebbd2df3cc2fb1082f6", func := "meridian/meridianlaw10.HlcFull", spec := "hlcFull", apart := false }
def HlcFullSaid : Prop := hlcFullRow.holds Try.pinned (OpenSpec.ofChange hlcFullSpec)

/-- ITS FALSE NEIGHBOUR: 'it returns false'. Refute it at one input. -/
def hlcFullWrong : ChangeSpec := { name := "hlcFull", fn := fun _ => fun
  | [d1, d2, d3] => { results := [.lit (.bool false)], args := [d1, d2, d3] }
  | _ => none }
def HlcFullWrongFalsely : Prop := hlcFullRow.holds Try.pinned (OpenSpec.ofChange hlcFullWrong)

/-- 'meridianlaw10.HlcTalk': WHATEVER THE INPUT: true; the input reads as it did. -/
def hlcTalkSpec : ChangeSpec := { name := "hlcTalk", fn := fun _ => fun
  | [d1, d2] => { results := [.lit (.bool true)], args := [d1, d2] }
  | _ => none }
def hlcTalkRow : OpenClaim := { program := "ytaamdgimjbgeeaa", sum := "944ab8500073dacbf371bb24bce876c32350195363c3bebbd2df3cc2fb1082f6", func := "meridian/meridianlaw10.HlcTalk", spec := "hlcTalk", apart := false }
def HlcTalkSaid : Prop := hlcTalkRow.holds Try.pinned (OpenSpec.ofChange hlcTalkSpec)

/-- ITS FALSE NEIGHBOUR: 'it returns false'. Refute it at one input. -/
def hlcTalkWrong : ChangeSpec := { name := "hlcTalk", fn := fun _ => fun
  | [d1, d2] => { results := [.lit (.bool false)], args := [d1, d2] }
  | _ => none }
def HlcTalkWrongFalsely : Prop := hlcTalkRow.holds Try.pinned (OpenSpec.ofChange hlcTalkWrong)

/-- 'meridianlaw10.HlcOrders': WHATEVER THE INPUT: true; the input reads as it did. -/
def hlcOrdersSpec : ChangeSpec := { name := "hlcOrders", fn := fun _ => fun
  | [d1, d2] => { results := [.lit (.bool true)], args := [d1, d2] }
  | _ => none }
def hlcOrdersRow : OpenClaim := { program := "ytaamdgimjbgeeaa", sum := "944ab8500073dacbf371bb24bce876c32350195363c3bebbd2df3cc2fb1082f6", func := "meridian/meridianlaw10.HlcOrders", spec := "hlcOrders", apart := false }
def HlcOrdersSaid : Prop := hlcOrdersRow.holds Try.pinned (OpenSpec.ofChange hlcOrdersSpec)

/-- ITS FALSE NEIGHBOUR: 'it returns false'. Refute it at one input. -/
def hlcOrdersWrong : ChangeSpec := { name := "hlcOrders", fn := fun _ => fun
  | [d1, d2] => { results := [.lit (.bool false)], args := [d1, d2] }
  | _ => none }
def HlcOrdersWrongFalsely : Prop := hlcOrdersRow.holds Try.pinned (OpenSpec.ofChange hlcOrdersWrong)

/-- 'meridianlaw10.HlcDrift': WHATEVER THE INPUT: true; the input reads as it did. -/
def hlcDriftSpec : ChangeSpec := { name := "hlcDrift", fn := fun _ => fun
  | [d1, d2, d3] => { results := [.lit (.bool true)], args := [d1, d2, d3] }
  | _ => none }
def hlcDriftRow : OpenClaim := { program := "ytaamdgimjbgeeaa", sum := "944ab8500073dacbf371bb24bce876c32350195363c3bebbd2df3cc2fb1082f6", func := "meridian/meridianlaw10.HlcDrift", spec := "hlcDrift", apart := false }
def HlcDriftSaid : Prop := hlcDriftRow.holds Try.pinned (OpenSpec.ofChange hlcDriftSpec)

/-- ITS FALSE NEIGHBOUR: 'it returns false'. Refute it at one input. -/
def hlcDriftWrong : ChangeSpec := { name := "hlcDrift", fn := fun _ => fun
  | [d1, d2, d3] => { results := [.lit (.bool false)], args := [d1, d2, d3] }
  | _ => none }
def HlcDriftWrongFalsely : Prop := hlcDriftRow.holds Try.pinned (OpenSpec.ofChange hlcDriftWrong)

/-- 'meridianlaw10.HlcPacks': WHATEVER THE INPUT: true; the input reads as it did. -/
def hlcPacksSpec : ChangeSpec := { name := "hlcPacks", fn := fun _ => fun
  | [d1, d2] => { results := [.lit (.bool true)], args := [d1, d2] }
  | _ => none }
def hlcPacksRow : OpenClaim := { program := "ytaamdgimjbgeeaa", sum := "944ab8500073dacbf371bb24bce876c32350195363c3bebbd2df3cc2fb1082f6", func := "meridian/meridianlaw10.HlcPacks", spec := "hlcPacks", apart := false }
def HlcPacksSaid : Prop := hlcPacksRow.holds Try.pinned (OpenSpec.ofChange hlcPacksSpec)

/-- ITS FALSE NEIGHBOUR: 'it returns false'. Refute it at one input. -/
def hlcPacksWrong : ChangeSpec := { name := "hlcPacks", fn := fun _ => fun
  | [d1, d2] => { results := [.lit (.bool false)], args := [d1, d2] }
  | _ => none }
def HlcPacksWrongFalsely : Prop := hlcPacksRow.holds Try.pinned (OpenSpec.ofChange hlcPacksWrong)

/-- 'meridianlaw10.HlcPlays': WHATEVER THE INPUT: true; the input reads as it did. -/
def hlcPlaysSpec : ChangeSpec := { name := "hlcPlays", fn := fun _ => fun
  | [d1, d2] => { results := [.lit (.bool true)], args := [d1, d2] }
  | _ => none }
def hlcPlaysRow : OpenClaim := { program := "ytaamdgimjbgeeaa", sum := "944ab8500073dacbf371bb24bce876c32350195363c3bebbd2df3cc2fb1082f6", func := "meridian/meridianlaw10.HlcPlays", spec := "hlcPlays", apart := false }
def HlcPlaysSaid : Prop := hlcPlaysRow.holds Try.pinned (OpenSpec.ofChange hlcPlaysSpec)

/-- ITS FALSE NEIGHBOUR: 'it returns false'. Refute it at one input. -/
def hlcPlaysWrong : ChangeSpec := { name := "hlcPlays", fn := fun _ => fun
  | [d1, d2] => { results := [.lit (.bool false)], args := [d1, d2] }
  | _ => none }
def HlcPlaysWrongFalsely : Prop := hlcPlaysRow.holds Try.pinned (OpenSpec.ofChange hlcPlaysWrong)

/-- 'meridianlaw10.HlcRises': WHATEVER THE INPUT: true; the input reads as it did. -/
def hlcRisesSpec : ChangeSpec := { name := "hlcRises", fn := fun _ => fun
  | [d] => { results := [.lit (.bool true)], args := [d] }
  | _ => none }
def hlcRisesRow : OpenClaim := { program := "ytaamdgimjbgeeaa", sum := "944ab8500073dacbf371bb24bce876c32350195363c3bebbd2df3cc2fb1082f6", func := "meridian/meridianlaw10.HlcRises", spec := "hlcRises", apart := false }
def HlcRisesSaid : Prop := hlcRisesRow.holds Try.pinned (OpenSpec.ofChange hlcRisesSpec)

/-- ITS FALSE NEIGHBOUR: 'it returns false'. Refute it at one input. -/
def hlcRisesWrong : ChangeSpec := { name := "hlcRises", fn := fun _ => fun
  | [d] => { results := [.lit (.bool false)], args := [d] }
  | _ => none }
def HlcRisesWrongFalsely : Prop := hlcRisesRow.holds Try.pinned (OpenSpec.ofChange hlcRisesWrong)

/-- 'meridianlaw10.HlcLives': WHATEVER THE INPUT: true; the input reads as it did. -/
def hlcLivesSpec : ChangeSpec := { name := "hlcLives", fn := fun _ => fun
  | [d1, d2] => { results := [.lit (.bool true)], args := [d1, d2] }
  | _ => none }
def hlcLivesRow : OpenClaim := { program := "ytaamdgimjbgeeaa", sum := "944ab8500073dacbf371bb24bce876c32350195363c3bebbd2df3cc2fb1082f6", func := "meridian/meridianlaw10.HlcLives", spec := "hlcLives", apart := false }
def HlcLivesSaid : Prop := hlcLivesRow.holds Try.pinned (OpenSpec.ofChange hlcLivesSpec)

/-- ITS FALSE NEIGHBOUR: 'it returns false'. Refute it at one input. -/
def hlcLivesWrong : ChangeSpec := { name := "hlcLives", fn := fun _ => fun
  | [d1, d2] => { results := [.lit (.bool false)], args := [d1, d2] }
  | _ => none }
def HlcLivesWrongFalsely : Prop := hlcLivesRow.holds Try.pinned (OpenSpec.ofChange hlcLivesWrong)

/-- 'meridianlaw10.HlcOfNothing': WHATEVER THE INPUT: true; the input reads as it did. -/
def hlcOfNothingSpec : ChangeSpec := { name := "hlcOfNothing", fn := fun _ => fun
  | [d1, d2] => { results := [.lit (.bool true)], args := [d1, d2] }
  | _ => none }
def hlcOfNothingRow : OpenClaim := { program := "ytaamdgimjbgeeaa", sum := "944ab8500073dacbf371bb24bce876c32350195363c3bebbd2df3cc2fb1082f6", func := "meridian/meridianlaw10.HlcOfNothing", spec := "hlcOfNothing", apart := false }
def HlcOfNothingSaid : Prop := hlcOfNothingRow.holds Try.pinned (OpenSpec.ofChange hlcOfNothingSpec)

/-- ITS FALSE NEIGHBOUR: 'it returns false'. Refute it at one input. -/
def hlcOfNothingWrong : ChangeSpec := { name := "hlcOfNothing", fn := fun _ => fun
  | [d1, d2] => { results := [.lit (.bool false)], args := [d1, d2] }
  | _ => none }
def HlcOfNothingWrongFalsely : Prop := hlcOfNothingRow.holds Try.pinned (OpenSpec.ofChange hlcOfNothingWrong)

/-- 'meridianlaw10.HlcStill': WHATEVER THE INPUT: true; the input reads as it did. -/
def hlcStillSpec : ChangeSpec := { name := "hlcStill", fn := fun _ => fun
  | [d1, d2, d3] => { results := [.lit (.bool true)], args := [d1, d2, d3] }
  | _ => none }
def hlcStillRow : OpenClaim := { program := "ytaamdgimjbgeeaa", sum := "944ab8500073dacbf371bb24bce876c32350195363c3bebbd2df3cc2fb1082f6", func := "meridian/meridianlaw10.HlcStill", spec := "hlcStill", apart := false }
def HlcStillSaid : Prop := hlcStillRow.holds Try.pinned (OpenSpec.ofChange hlcStillSpec)

/-- ITS FALSE NEIGHBOUR: 'it returns false'. Refute it at one input. -/
def hlcStillWrong : ChangeSpec := { name := "hlcStill", fn := fun _ => fun
  | [d1, d2, d3] => { results := [.lit (.bool false)], args := [d1, d2, d3] }
  | _ => none }
def HlcStillWrongFalsely : Prop := hlcStillRow.holds Try.pinned (OpenSpec.ofChange hlcStillWrong)

/- THE SECOND FORM. 'bulk': how many values and letters a reading holds, each counted each time it is reached (what is shared counts as often as it is met; a slice's spare places count too). A statement '..UptoSaid' is the law's where the arguments, and the package variables that the reading takes, are together of bulk at most 1048576: NARROWER than '..Said'. Prove '..Said' where nothing that the law and all that it calls make is longer than what came in: it says more and counts as full. Else prove '..UptoSaid'. A law counts once. -/
mutual
def uptoBulk {H : Type} : DataW H → Nat
  | .lit (.string bytes) => bytes.length + 1
  | .lit _ => 1
  | .nil => 1
  | .ptr d => uptoBulk d + 1
  | .slice elems spare => uptoBulkAll elems + uptoBulkAll spare + 1
  | .agg parts => uptoBulkAll parts + 1
  | .iface _ d => uptoBulk d + 1
  | .map entries => uptoBulkEntries entries + 1
  | .held _ => 1
def uptoBulkAll {H : Type} : List (DataW H) → Nat
  | [] => 0
  | d :: r => uptoBulk d + uptoBulkAll r
def uptoBulkEntries {H : Type} : List (Lit × DataW H) → Nat
  | [] => 0
  | x :: r => uptoBulkEntry x + uptoBulkEntries r
def uptoBulkEntry {H : Type} : Lit × DataW H → Nat
  | (.string bytes, d) => bytes.length + uptoBulk d + 1
  | (_, d) => uptoBulk d + 1
 end
def uptoSmall : (H : Type) → List (DataW H) → Bool := fun _ ds => decide (uptoBulkAll ds ≤ 1048576)
def OpenSpec.upto (s : _root_.Go.ChangeSpec) : _root_.Go.OpenSpec := { _root_.Go.OpenSpec.ofChange s with cond := some uptoSmall }

/-- 'meridianlaw10.HlcMax', WHERE WHAT IT READS IS OF BULK AT MOST 1048576: true; the input reads as it did. -/
def hlcMaxUptoRow : OpenClaim := { program := "ytaamdgimjbgeeaa", sum := "944ab8500073dacbf371bb24bce876c32350195363c3bebbd2df3cc2fb1082f6", func := "meridian/meridianlaw10.HlcMax", spec := "hlcMax", apart := false, narrowed := true }
def HlcMaxUptoSaid : Prop := hlcMaxUptoRow.holds Try.pinned (OpenSpec.upto hlcMaxSpec)

/-- 'meridianlaw10.HlcFull', WHERE WHAT IT READS IS OF BULK AT MOST 1048576: true; the input reads as it did. -/
def hlcFullUptoRow : OpenClaim := { program := "ytaamdgimjbgeeaa", sum := "944ab8500073dacbf371bb24bce876c32350195363c3bebbd2df3cc2fb1082f6", func := "meridian/meridianlaw10.HlcFull", spec := "hlcFull", apart := false, narrowed := true }
def HlcFullUptoSaid : Prop := hlcFullUptoRow.holds Try.pinned (OpenSpec.upto hlcFullSpec)

/-- 'meridianlaw10.HlcTalk', WHERE WHAT IT READS IS OF BULK AT MOST 1048576: true; the input reads as it did. -/
def hlcTalkUptoRow : OpenClaim := { program := "ytaamdgimjbgeeaa", sum := "944ab8500073dacbf371bb24bce876c32350195363c3bebbd2df3cc2fb1082f6", func := "meridian/meridianlaw10.HlcTalk", spec := "hlcTalk", apart := false, narrowed := true }
def HlcTalkUptoSaid : Prop := hlcTalkUptoRow.holds Try.pinned (OpenSpec.upto hlcTalkSpec)

/-- 'meridianlaw10.HlcOrders', WHERE WHAT IT READS IS OF BULK AT MOST 1048576: true; the input reads as it did. -/
def hlcOrdersUptoRow : OpenClaim := { program := "ytaamdgimjbgeeaa", sum := "944ab8500073dacbf371bb24bce876c32350195363c3bebbd2df3cc2fb1082f6", func := "meridian/meridianlaw10.HlcOrders", spec := "hlcOrders", apart := false, narrowed := true }
def HlcOrdersUptoSaid : Prop := hlcOrdersUptoRow.holds Try.pinned (OpenSpec.upto hlcOrdersSpec)

/-- 'meridianlaw10.HlcDrift', WHERE WHAT IT READS IS OF BULK AT MOST 1048576: true; the input reads as it did. -/
def hlcDriftUptoRow : OpenClaim := { program := "ytaamdgimjbgeeaa", sum := "944ab8500073dacbf371bb24bce876c32350195363c3bebbd2df3cc2fb1082f6", func := "meridian/meridianlaw10.HlcDrift", spec := "hlcDrift", apart := false, narrowed := true }
def HlcDriftUptoSaid : Prop := hlcDriftUptoRow.holds Try.pinned (OpenSpec.upto hlcDriftSpec)

/-- 'meridianlaw10.HlcPacks', WHERE WHAT IT READS IS OF BULK AT MOST 1048576: true; the input reads as it did. -/
def hlcPacksUptoRow : OpenClaim := { program := "ytaamdgimjbgeeaa", sum := "944ab8500073dacbf371bb24bce876c32350195363c3bebbd2df3cc2fb1082f6", func := "meridian/meridianlaw10.HlcPacks", spec := "hlcPacks", apart := false, narrowed := true }
def HlcPacksUptoSaid : Prop := hlcPacksUptoRow.holds Try.pinned (OpenSpec.upto hlcPacksSpec)

/-- 'meridianlaw10.HlcPlays', WHERE WHAT IT READS IS OF BULK AT MOST 1048576: true; the input reads as it did. -/
def hlcPlaysUptoRow : OpenClaim := { program := "ytaamdgimjbgeeaa", sum := "944ab8500073dacbf371bb24bce876c32350195363c3bebbd2df3cc2fb1082f6", func := "meridian/meridianlaw10.HlcPlays", spec := "hlcPlays", apart := false, narrowed := true }
def HlcPlaysUptoSaid : Prop := hlcPlaysUptoRow.holds Try.pinned (OpenSpec.upto hlcPlaysSpec)

/-- 'meridianlaw10.HlcRises', WHERE WHAT IT READS IS OF BULK AT MOST 1048576: true; the input reads as it did. -/
def hlcRisesUptoRow : OpenClaim := { program := "ytaamdgimjbgeeaa", sum := "944ab8500073dacbf371bb24bce876c32350195363c3bebbd2df3cc2fb1082f6", func := "meridian/meridianlaw10.HlcRises", spec := "hlcRises", apart := false, narrowed := true }
def HlcRisesUptoSaid : Prop := hlcRisesUptoRow.holds Try.pinned (OpenSpec.upto hlcRisesSpec)

/-- 'meridianlaw10.HlcLives', WHERE WHAT IT READS IS OF BULK AT MOST 1048576: true; the input reads as it did. -/
def hlcLivesUptoRow : OpenClaim := { program := "ytaamdgimjbgeeaa", sum := "944ab8500073dacbf371bb24bce876c32350195363c3bebbd2df3cc2fb1082f6", func := "meridian/meridianlaw10.HlcLives", spec := "hlcLives", apart := false, narrowed := true }
def HlcLivesUptoSaid : Prop := hlcLivesUptoRow.holds Try.pinned (OpenSpec.upto hlcLivesSpec)

/-- 'meridianlaw10.HlcOfNothing', WHERE WHAT IT READS IS OF BULK AT MOST 1048576: true; the input reads as it did. -/
def hlcOfNothingUptoRow : OpenClaim := { program := "ytaamdgimjbgeeaa", sum := "944ab8500073dacbf371bb24bce876c32350195363c3bebbd2df3cc2fb1082f6", func := "meridian/meridianlaw10.HlcOfNothing", spec := "hlcOfNothing", apart := false, narrowed := true }
def HlcOfNothingUptoSaid : Prop := hlcOfNothingUptoRow.holds Try.pinned (OpenSpec.upto hlcOfNothingSpec)

/-- 'meridianlaw10.HlcStill', WHERE WHAT IT READS IS OF BULK AT MOST 1048576: true; the input reads as it did. -/
def hlcStillUptoRow : OpenClaim := { program := "ytaamdgimjbgeeaa", sum := "944ab8500073dacbf371bb24bce876c32350195363c3bebbd2df3cc2fb1082f6", func := "meridian/meridianlaw10.HlcStill", spec := "hlcStill", apart := false, narrowed := true }
def HlcStillUptoSaid : Prop := hlcStillUptoRow.holds Try.pinned (OpenSpec.upto hlcStillSpec)

end Rows
end Go.Proofs.Ytaamdgimjbgeeaa
