/-
  No cell of these rows narrows 'for every input' (looked for: loops, veiled, ifaces, maps, wideKeys, modest, calm, conditions, laid).
  DERIVED. THE GIVEN ROWS OF THIS SEAT. 5 by the template 'for every input the law returns true; each argument reads behind the call as it read before'; 0 by the template 'total and deterministic' (their statements: YtbijglnkohmafaaTotals.lean).
  GIVEN WITH THE SEED: the statements are not yours to turn. If you find one false, say at which input.
  Laid BY PROGRAM, IN A SANDBOX (cutbox-rows.mjs): the forced cells as the released guide's own fill.sh prints them over the translation d9127616df983aec… (all of the seat's roots in one cut). By AI agents, Wed Nov 11 2026. No macro, syntax, notation, axiom, sorry.
-/
import Derived.Test.YtbijglnkohmafaaChecked
import GoSem.Claim
import GoSem.ClaimJoined
import GoSem.ClaimMapViews
import Derived.JoinedTies
import Derived.KernelRfl
namespace Go.Proofs.Ytbijglnkohmafaa
/- THE CELL 'sum', in the pinned program and in every row, IS THE sha256 OF THE DUMP (.gsa) THAT YtbijglnkohmafaaProg.lean LOADS. Nothing in Lean hashes anything: it is a label: what it is worth is what the hold of that sum in a sandbox is worth. -/
noncomputable def Try.pinned : Pinned := { name := "ytbijglnkohmafaa", sum := "d9127616df983aeceb1bf01e8e5cdf39e3f076adcc7b1b38d25ff4f410c6dbdf", checked := Try.checked }
namespace Rows
def none {H : Type} : Left H := { results := [], args := [] }

/-- 'meridianlaw21.LeaseFull': WHATEVER THE INPUT: true; the input reads as it did. -/
def leaseFullSpec : ChangeSpec := { name := "leaseFull", fn := fun _ => fun
  | [d1, d2] => { results := [.lit (.bool true)], args := [d1, d2] }
  | _ => none }
def leaseFullRow : OpenClaim := { program := "ytbijglnkohmafaa", sum := "d9127616df983aeceb1bf01e8e5cdf39e3f076adcc7b1b38d25ff4f410c6dbdf", func := "meridian/meridianlaw21.LeaseFull", spec := "leaseFull", apart := false }
def LeaseFullSaid : Prop := leaseFullRow.holds Try.pinned (OpenSpec.ofChange leaseFullSpec)

/-- ITS FALSE NEIGHBOUR: 'it returns false'. Refute it at one input. -/
def leaseFullWrong : ChangeSpec := { name := "leaseFull", fn := fun _ => fun
  | [d1, d2] => { results := [.lit (.bool false)], args := [d1, d2] }
  | _ => none }
def LeaseFullWrongFalsely : Prop := leaseFullRow.holds Try.pinned (OpenSpec.ofChange leaseFullWrong)

/-- 'meridianlaw21.LeaseHeld': WHATEVER THE INPUT: true; the input reads as it did. -/
def leaseHeldSpec : ChangeSpec := { name := "leaseHeld", fn := fun _ => fun
  | [d1, d2, d3, d4] => { results := [.lit (.bool true)], args := [d1, d2, d3, d4] }
  | _ => none }
def leaseHeldRow : OpenClaim := { program := "ytbijglnkohmafaa", sum := "d9127616df983aeceb1bf01e8e5cdf39e3f076adcc7b1b38d25ff4f410c6dbdf", func := "meridian/meridianlaw21.LeaseHeld", spec := "leaseHeld", unfollowed := true, recurses := true, apart := false }
def LeaseHeldSaid : Prop := leaseHeldRow.holds Try.pinned (OpenSpec.ofChange leaseHeldSpec)

/-- ITS FALSE NEIGHBOUR: 'it returns false'. Refute it at one input. -/
def leaseHeldWrong : ChangeSpec := { name := "leaseHeld", fn := fun _ => fun
  | [d1, d2, d3, d4] => { results := [.lit (.bool false)], args := [d1, d2, d3, d4] }
  | _ => none }
def LeaseHeldWrongFalsely : Prop := leaseHeldRow.holds Try.pinned (OpenSpec.ofChange leaseHeldWrong)

/-- 'meridianlaw21.LeaseRenews': WHATEVER THE INPUT: true; the input reads as it did. -/
def leaseRenewsSpec : ChangeSpec := { name := "leaseRenews", fn := fun _ => fun
  | [d1, d2, d3, d4] => { results := [.lit (.bool true)], args := [d1, d2, d3, d4] }
  | _ => none }
def leaseRenewsRow : OpenClaim := { program := "ytbijglnkohmafaa", sum := "d9127616df983aeceb1bf01e8e5cdf39e3f076adcc7b1b38d25ff4f410c6dbdf", func := "meridian/meridianlaw21.LeaseRenews", spec := "leaseRenews", unfollowed := true, recurses := true, apart := false }
def LeaseRenewsSaid : Prop := leaseRenewsRow.holds Try.pinned (OpenSpec.ofChange leaseRenewsSpec)

/-- ITS FALSE NEIGHBOUR: 'it returns false'. Refute it at one input. -/
def leaseRenewsWrong : ChangeSpec := { name := "leaseRenews", fn := fun _ => fun
  | [d1, d2, d3, d4] => { results := [.lit (.bool false)], args := [d1, d2, d3, d4] }
  | _ => none }
def LeaseRenewsWrongFalsely : Prop := leaseRenewsRow.holds Try.pinned (OpenSpec.ofChange leaseRenewsWrong)

/-- 'meridianlaw21.LeasePlays': WHATEVER THE INPUT: true; the input reads as it did. -/
def leasePlaysSpec : ChangeSpec := { name := "leasePlays", fn := fun _ => fun
  | [d] => { results := [.lit (.bool true)], args := [d] }
  | _ => none }
def leasePlaysRow : OpenClaim := { program := "ytbijglnkohmafaa", sum := "d9127616df983aeceb1bf01e8e5cdf39e3f076adcc7b1b38d25ff4f410c6dbdf", func := "meridian/meridianlaw21.LeasePlays", spec := "leasePlays", unfollowed := true, recurses := true, apart := false }
def LeasePlaysSaid : Prop := leasePlaysRow.holds Try.pinned (OpenSpec.ofChange leasePlaysSpec)

/-- ITS FALSE NEIGHBOUR: 'it returns false'. Refute it at one input. -/
def leasePlaysWrong : ChangeSpec := { name := "leasePlays", fn := fun _ => fun
  | [d] => { results := [.lit (.bool false)], args := [d] }
  | _ => none }
def LeasePlaysWrongFalsely : Prop := leasePlaysRow.holds Try.pinned (OpenSpec.ofChange leasePlaysWrong)

/-- 'meridianlaw21.LeaseOfNothing': WHATEVER THE INPUT: true; the input reads as it did. -/
def leaseOfNothingSpec : ChangeSpec := { name := "leaseOfNothing", fn := fun _ => fun
  | [d1, d2] => { results := [.lit (.bool true)], args := [d1, d2] }
  | _ => none }
def leaseOfNothingRow : OpenClaim := { program := "ytbijglnkohmafaa", sum := "d9127616df983aeceb1bf01e8e5cdf39e3f076adcc7b1b38d25ff4f410c6dbdf", func := "meridian/meridianlaw21.LeaseOfNothing", spec := "leaseOfNothing", unfollowed := true, recurses := true, apart := false }
def LeaseOfNothingSaid : Prop := leaseOfNothingRow.holds Try.pinned (OpenSpec.ofChange leaseOfNothingSpec)

/-- ITS FALSE NEIGHBOUR: 'it returns false'. Refute it at one input. -/
def leaseOfNothingWrong : ChangeSpec := { name := "leaseOfNothing", fn := fun _ => fun
  | [d1, d2] => { results := [.lit (.bool false)], args := [d1, d2] }
  | _ => none }
def LeaseOfNothingWrongFalsely : Prop := leaseOfNothingRow.holds Try.pinned (OpenSpec.ofChange leaseOfNothingWrong)

/- THE SECOND FORM. 'bulk': how many values and letters a reading holds, each counted each time it is reached (what is shared counts as often as it is met; a slice's spare places count too). A statement '..UptoSaid' is the law's where the arguments, and the package variables that the reading takes, are together of bulk at most 1048576: NARROWER than '..Said'. Prove '..Said' where nothing that the law and all that it calls make is longer than what came in: it says more and counts as full. Else prove '..UptoSaid'. A law counts once. -/
mutual
def uptoBulk {H : Type} : DataW H → Nat
  | .lit (.string bytes) => bytes.length + 1
  | .lit _ => 1
  | .nil => 1
  | .ptr d => uptoBulk d + 1
  | .slice elems spare => uptoBulkAll elems + uptoBulkAll spare + 1
  | .agg parts => uptoBulkAll parts + 1
  | .iface _ d => uptoBulk d + 1
  | .map entries => uptoBulkEntries entries + 1
  | .held _ => 1
def uptoBulkAll {H : Type} : List (DataW H) → Nat
  | [] => 0
  | d :: r => uptoBulk d + uptoBulkAll r
def uptoBulkEntries {H : Type} : List (Lit × DataW H) → Nat
  | [] => 0
  | x :: r => uptoBulkEntry x + uptoBulkEntries r
def uptoBulkEntry {H : Type} : Lit × DataW H → Nat
  | (.string bytes, d) => bytes.length + uptoBulk d + 1
  | (_, d) => uptoBulk d + 1
 end
def uptoSmall : (H : Type) → List (DataW H) → Bool := fun _ ds => decide (uptoBulkAll ds ≤ 1048576)
def OpenSpec.upto (s : _root_.Go.ChangeSpec) : _root_.Go.OpenSpec := { _root_.Go.OpenSpec.ofChange s with cond := some uptoSmall }

/-- 'meridianlaw21.LeaseFull', WHERE WHAT IT READS IS OF BULK AT MOST 1048576: true; the input reads as it did. -/
def leaseFullUptoRow : OpenClaim := { program := "ytbijglnkohmafaa", sum := "d9127616df983aeceb1bf01e8e5cdf39e3f076adcc7b1b38d25ff4f410c6dbdf", func := "meridian/meridianlaw21.LeaseFull", spec := "leaseFull", apart := false, narrowed := true }
def LeaseFullUptoSaid : Prop := leaseFullUptoRow.holds Try.pinned (OpenSpec.upto leaseFullSpec)

/-- 'meridianlaw21.LeaseHeld', WHERE WHAT IT READS IS OF BULK AT MOST 1048576: true; the input reads as it did. -/
def leaseHeldUptoRow : OpenClaim := { program := "ytbijglnkohmafaa", sum := "d9127616df983aeceb1bf01e8e5cdf39e3f076adcc7b1b38d25ff4f410c6dbdf", func := "meridian/meridianlaw21.LeaseHeld", spec := "leaseHeld", unfollowed := true, recurses := true, apart := false, narrowed := true }
def LeaseHeldUptoSaid : Prop := leaseHeldUptoRow.holds Try.pinned (OpenSpec.upto leaseHeldSpec)

/-- 'meridianlaw21.LeaseRenews', WHERE WHAT IT READS IS OF BULK AT MOST 1048576: true; the input reads as it did. -/
def leaseRenewsUptoRow : OpenClaim := { program := "ytbijglnkohmafaa", sum := "d9127616df983aeceb1bf01e8e5cdf39e3f076adcc7b1b38d25ff4f410c6dbdf", func := "meridian/meridianlaw21.LeaseRenews", spec := "leaseRenews", unfollowed := true, recurses := true, apart := false, narrowed := true }
def LeaseRenewsUptoSaid : Prop := leaseRenewsUptoRow.holds Try.pinned (OpenSpec.upto leaseRenewsSpec)

/-- 'meridianlaw21.LeasePlays', WHERE WHAT IT READS IS OF BULK AT MOST 1048576: true; the input reads as it did. -/
def leasePlaysUptoRow : OpenClaim := { program := "ytbijglnkohmafaa", sum := "d9127616df983aeceb1bf01e8e5cdf39e3f076adcc7b1b38d25ff4f410c6dbdf", func := "meridian/meridianlaw21.LeasePlays", spec := "leasePlays", unfollowed := true, recurses := true, apart := false, narrowed := true }
def LeasePlaysUptoSaid : Prop := leasePlaysUptoRow.holds Try.pinned (OpenSpec.upto leasePlaysSpec)

/-- 'meridianlaw21.LeaseOfNothing', WHERE WHAT IT READS IS OF BULK AT MOST 1048576: true; the input reads as it did. -/
def leaseOfNothingUptoRow : OpenClaim := { program := "ytbijglnkohmafaa", sum := "d9127616df983aeceb1bf01e8e5cdf39e3f076adcc7b1b38d25ff4f410c6dbdf", func := "meridian/meridianlaw21.LeaseOfNothing", spec := "leaseOfNothing", unfollowed := true, recurses := true, apart := false, narrowed := true }
def LeaseOfNothingUptoSaid : Prop := leaseOfNothingUptoRow.holds Try.pinned (OpenSpec.upto leaseOfNothingSpec)

end Rows
end Go.Proofs.Ytbijglnkohmafaa
